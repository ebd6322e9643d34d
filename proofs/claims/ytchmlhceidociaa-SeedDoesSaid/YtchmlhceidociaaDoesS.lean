/- SeedDoes: the walk. -/
import Derived.Test.YtchmlhceidociaaDdS
import Derived.Test.YtchmlhceidociaaAwakeS
import Derived.Deep.Cut
import Derived.Deep.CutRange
import Derived.Deep.CutBlock
namespace Go.Proofs.Ytchmlhceidociaa
set_option linter.unusedVariables false
set_option linter.unusedSimpArgs false
open Go.RowKit

/-- one store went on, no tree was turned -/
theorem NT.trans {S T : Nat → Prop} {a b c : World} (st : Step S T a b) (h : Upd (NT S a) a b) (k : Upd (NT T b) b c) : Upd (NT S a) a c :=
  ⟨k.os.trans h.os, k.tape.trans h.tape, k.output.trans h.output, Nat.le_trans h.size k.size, fun i hi hn => by
    have h1 := h.block i hi hn
    refine (k.block i (Nat.lt_of_lt_of_le hi h.size) (fun ht => hn ?_)).trans h1
    refine ⟨(st.sub i ht.1).resolve_right (by omega), fun cur hb => ht.2 cur ?_⟩
    unfold Blk at hb ⊢
    rw [h1]; exact hb⟩

theorem growA_len (l : List Pr) (en lv : Int) (t : List Twg) : (growA l en lv t).2.length ≤ l.length + 1 := by
  unfold growA
  split
  · simp
  · split <;> simp <;> omega
theorem endA_len (l : List Pr) : (endA l).2.length ≤ l.length := by
  unfold endA
  split
  · simp
  · simp
set_option maxRecDepth 100000 in
set_option maxHeartbeats 12800000 in
theorem does_any (v : Value) (ds : List Dd) (w : World) (h : Deeds w v ds) :
    Calls Try.prog 3 #[v] w fun e w' => e = .returned (.bool true) ∧ Below w.heap.size w w' := by
  have HA := Lib.hid (fun W => awake_any W)
  have HSZ := Lib.hid (size_any v ds w h)
  obtain ⟨A, c, rfl, hc, hm, hl, hd, hcells⟩ := h
  unfold maxLen at hm
  have HD := Lib.hid hd
  clear hd
  by_cases hlong : 200 < ds.length
  · have hlong' : (200 : Int) < (ds.length : Int) := by omega
    clear hcells
    go_enter Try.func3, Try.ntmps3
    go_wp2_with (first
      | (go_at_call 5; refine (HA.out _).mono ?_; rintro e w1 ⟨rfl, hb1⟩))
    go_ret
    exact ⟨rfl, hb1⟩
  have hdl : ds.length ≤ 200 := by omega
  have hdl' : ¬ ((200 : Int) < (ds.length : Int)) := by omega
  clear hlong
  by_cases hbig : 2000 < sizeOf ds
  · go_enter Try.func3, Try.ntmps3
    go_wp2_with (first
      | (go_at_call 4; refine HSZ.out.mono ?_; rintro e w1 ⟨n, rfl, hn1, hn2, rfl⟩
         have hnb : (2000 : Int) < (n : Int) := by
           rcases Nat.lt_or_ge 2000 n with h | h
           · omega
           · have := hn1 h; omega
         have hN := Lib.hid hn1
         clear hn1 hn2 hcells)
      | (go_at_call 5; refine (HA.out _).mono ?_; rintro e w1 ⟨rfl, hb1⟩))
    go_ret
    exact ⟨rfl, hb1⟩
  have hsz : sizeOf ds ≤ 2000 := by omega
  have HTL := Lib.hid (fun k hk => Nat.le_trans (tree_le ds k hk) hsz)
  clear hbig
  go_enter Try.func3, Try.ntmps3
  go_wp2_with (first
    | (go_at_call 4; refine HSZ.out.mono ?_; rintro e w1 ⟨n0, rfl, hn1, hn2, rfl⟩
       have hnb : ¬ ((2000 : Int) < (n0 : Int)) := by omega
       have hN := Lib.hid hn1
       clear hn1 hn2)
    | (go_at_call 6; refine (new_uni _).mono ?_; rintro e w2 ⟨p0, T1, rfl, hs2, ht2, hb2⟩))
  have hb3 := (ext_refl w2).alloc (Nat.le_refl _) (.cells #[.slice none 0 0] 30)
  have hq : RS (w2.alloc (.cells #[.slice none 0 0] 30)) w2.heap.size (· = w2.heap.size) [] := rnew _ _ (Blk.new _ _ _)
  have hst : ∃ U, Tw (w2.alloc (.cells #[.slice none 0 0] 30)) p0 w2.heap.size U [] ∧ Car w U (w2.alloc (.cells #[.slice none 0 0] 30)) := by
    refine ⟨_, ⟨T1, _, hs2.ext hb3, hq, fun k hk hk' => ?_, rfl⟩, ext_trans hb2 hb3, fun k hk => ?_⟩
    · have := hs2.slt k hk
      omega
    · rcases hk with hk | hk
      · exact ht2 k hk
      · have := hb2.size
        omega
  obtain ⟨U0, htw0, hcar0⟩ := hst
  generalize hw3 : w2.alloc (.cells #[.slice none 0 0] 30) = w3 at *
  generalize hq0 : w2.heap.size = q at *
  have H3 := Lib.hid (And.intro htw0 hcar0)
  clear hs2 ht2 hb2 hq hb3 hw3 hq0 htw0 hcar0
  go_loopw [3, 5] (fun sv i wr => ∃ (k p : Nat) (l : List Pr) (U : Nat → Prop), k ≤ ds.length ∧ sv = .pointer (some ⟨p, 0, none⟩) ∧ i = .int .i64 k ∧ Tw wr p q U l ∧ Bd k l ∧ Car w U wr) (fun sv i _ => ds.length - (intOf i).toNat)
  case atStart => exact ⟨0, p0, [], U0, Nat.zero_le _, rfl, rfl, H3.out.1, Bd.nil _, H3.out.2⟩
  case round =>
    obtain ⟨k, p, l, U, hk, rfl, rfl, htw, hbd, hcar⟩ := hrel
    by_cases hlt : k < ds.length
    · obtain ⟨b, o, rfl, hbl, hcell⟩ := hcells (by omega)
      obtain ⟨tv, g0, g1, g2, g3, g4, g5, hti⟩ := hcell k hlt
      have hdk := HD.out _ (List.getElem_mem hlt)
      have htl := HTL.out k hlt
      obtain ⟨At, ct, rfl, hct, hmt, -⟩ := hti.form
      unfold maxLen at hmt
      replace g0 := (hcar.1.cell (p := ⟨b, o + k * 6, none⟩) hbl).trans g0
      replace g1 := (hcar.1.cell (p := ⟨b, o + k * 6 + 1, none⟩) hbl).trans g1
      replace g2 := (hcar.1.cell (p := ⟨b, o + k * 6 + 2, none⟩) hbl).trans g2
      replace g3 := (hcar.1.cell (p := ⟨b, o + k * 6 + 3, none⟩) hbl).trans g3
      replace g4 := (hcar.1.cell (p := ⟨b, o + k * 6 + 4, none⟩) hbl).trans g4
      replace g5 := (hcar.1.cell (p := ⟨b, o + k * 6 + 5, none⟩) hbl).trans g5
      have HTI := Lib.hid (fun W (hW : Below w.heap.size w W) => show Twgs W (.slice At ds[k].tree.length ct) ds[k].tree from hti.of_cells (fun a u ha => (hW.cell (World.block_lt_of_cell? w a ha)).trans ha))
      have hlk : (k : Int) < (ds.length : Int) := by omega
      have hrg := pick_range ds[k].what 6 (by omega)
      have HPK := Lib.hid (fun W => pick_any ds[k].what 6 W (by omega) (by omega))
      clear hcell hti
      generalize hx : ds[k] = x at *
      clear hx
      generalize pick x.what 6 = cc at *
      have HI := Lib.hid (And.intro htw (And.intro hbd hcar))
      have HDK := Lib.hid hdk
      clear htw hbd hcar hdk
      obtain ⟨W, rfl⟩ : ∃ W : World, W = wr := ⟨_, rfl⟩
      by_cases hbad : 1099511627776 < x.level ∨ x.level < -1099511627776 ∨ 1099511627776 < x.end_
      · rcases hbad with h1 | h1 | h1
        · go_wp2_with (first
            | (go_at_call 5; refine (HA.out _).mono ?_; rintro e w1 ⟨rfl, hb1⟩))
          go_ret
          exact ⟨rfl, HI.out.2.2.1.trans ((ext_trans ((ext_refl W).alloc (Nat.le_refl _) _) hb1).mono HI.out.2.2.1.size)⟩
        · have h2 : ¬ (1099511627776 < x.level) := by omega
          go_wp2_with (first
            | (go_at_call 5; refine (HA.out _).mono ?_; rintro e w1 ⟨rfl, hb1⟩))
          go_ret
          exact ⟨rfl, HI.out.2.2.1.trans ((ext_trans ((ext_refl W).alloc (Nat.le_refl _) _) hb1).mono HI.out.2.2.1.size)⟩
        · by_cases h2 : 1099511627776 < x.level
          · go_wp2_with (first
              | (go_at_call 5; refine (HA.out _).mono ?_; rintro e w1 ⟨rfl, hb1⟩))
            go_ret
            exact ⟨rfl, HI.out.2.2.1.trans ((ext_trans ((ext_refl W).alloc (Nat.le_refl _) _) hb1).mono HI.out.2.2.1.size)⟩
          · by_cases h3 : x.level < -1099511627776
            all_goals
              go_wp2_with (first
                | (go_at_call 5; refine (HA.out _).mono ?_; rintro e w1 ⟨rfl, hb1⟩))
              go_ret
              exact ⟨rfl, HI.out.2.2.1.trans ((ext_trans ((ext_refl W).alloc (Nat.le_refl _) _) hb1).mono HI.out.2.2.1.size)⟩
      have b1 : ¬ (1099511627776 < x.level) := fun h => hbad (.inl h)
      have b2 : ¬ (x.level < -1099511627776) := fun h => hbad (.inr (.inl h))
      have b3 : ¬ (1099511627776 < x.end_) := fun h => hbad (.inr (.inr h))
      clear hbad
      go_upto_region 10 with (fail)
      have hB6 := Blk.new W 33 #[.int .i64 x.what, .int .i64 x.rule, .int .i64 x.place, .int .i64 x.end_, .int .i64 x.level, .slice At x.tree.length ct]
      have hbW := (ext_refl W).alloc (Nat.le_refl _) (.cells #[.int .i64 x.what, .int .i64 x.rule, .int .i64 x.place, .int .i64 x.end_, .int .i64 x.level, .slice At x.tree.length ct] 33)
      obtain ⟨b6, hb6⟩ : ∃ b6, b6 = W.heap.size := ⟨_, rfl⟩
      rw [← hb6] at hB6 ⊢
      have H6 := Lib.hid (And.intro hb6 (And.intro hB6 hbW))
      clear g0 g1 g2 g3 g4 g5 hb6 hbW
      generalize W.alloc (.cells #[.int .i64 x.what, .int .i64 x.rule, .int .i64 x.place, .int .i64 x.end_, .int .i64 x.level, .slice At x.tree.length ct] 33) = V at *
      go_cut [57] from 46 to 57 (fun cnd wx => ∃ bb : Bool, cnd = .bool bb ∧ (bb = true → 0 < l.length) ∧ wx = V)
      case first =>
        have c0 := hB6.cell 0
        have cl := hB6.lt
        by_cases h5 : cc = 5
        · have h5' : (cc == 5) = true := by simp [h5]
          obtain ⟨S, R, hs, hr, hdj, hU⟩ := HI.out.1
          obtain ⟨Ar, cr, r0, rl, -⟩ := (hr.ext H6.out.2.2).form
          clear hs hr hdj hU
          by_cases hl0 : 0 < l.length
          · have hd1 : decide (0 < l.length) = true := by simp [hl0]
            have hd2 : (0 : Int) < (l.length : Int) := by omega
            go_wp2_with (first
              | (go_at_call 7; refine (HPK.out _).mono ?_; rintro e w1 ⟨rfl, rfl⟩))
            go_meet
            case rel => exact ⟨true, rfl, fun _ => hl0, rfl⟩
          · have hd1 : decide (0 < l.length) = false := decide_eq_false hl0
            have hd2 : ¬ (0 : Int) < (l.length : Int) := by omega
            go_wp2_with (first
              | (go_at_call 7; refine (HPK.out _).mono ?_; rintro e w1 ⟨rfl, rfl⟩))
            go_meet
            case rel => exact ⟨false, rfl, (fun h => by cases h), rfl⟩
        · have h5' : (cc == 5) = false := by simp [h5]
          go_wp2_with (first
            | (go_at_call 7; refine (HPK.out _).mono ?_; rintro e w1 ⟨rfl, rfl⟩))
          go_meet
          case rel => exact ⟨false, rfl, (fun h => by cases h), rfl⟩
      case rest =>
        obtain ⟨bb, rfl, hbb, rfl⟩ := hcut
        go_upto_if 57 with (fail)
        have hB6 := H6.out.2.1
        go_cut [] from 58 to 86 (fun wx => ∃ en lv : Int, Blk wx b6 33 #[.int .i64 x.what, .int .i64 x.rule, .int .i64 x.place, .int .i64 en, .int .i64 lv, .slice At x.tree.length ct] ∧ (-1099511627776 ≤ lv ∧ lv ≤ 1099511627776 ∧ -9223372036854775808 ≤ en ∧ en ≤ 1099511627776 + (k + 1)) ∧ Upd (· = b6) wc wx)
        case first =>
          cases bb with
          | false =>
            go_wp2
            go_meet
            case rel => exact ⟨x.end_, x.level, H6.out.2.1, ⟨by omega, by omega, HDK.out.1.1, by omega⟩, Upd.refl _ _⟩
          | true =>
            have hl0 := hbb rfl
            obtain ⟨V, rfl⟩ : ∃ V : World, V = wc := ⟨_, rfl⟩
            obtain ⟨S, R, hs, hr, hdj, hU⟩ := HI.out.1
            obtain ⟨Ar, cr, r0, rl, hrc, hrm, hrnil, hrow⟩ := hr.form
            unfold maxLen at hrm
            have hllen := HI.out.2.1.len
            clear hs hr hdj hU
            obtain ⟨g, rfl, hgl, hcl⟩ := hrow hl0
            obtain ⟨N, hN⟩ : ∃ N, N = l.length - 1 := ⟨_, rfl⟩
            obtain ⟨-, -, -, z3, z4, -⟩ := hcl N (by omega)
            have hzb := HI.out.2.1.pr _ (List.getElem_mem (show N < l.length by omega))
            have hb6 := H6.out.1
            have hg6 : g ≠ b6 := by omega
            have hq6 : q ≠ b6 := by omega
            have hbW := H6.out.2.2
            generalize l[N] = y at *
            replace r0 := (hbW.cell (p := ⟨q, 0, none⟩) rl).trans r0
            replace z3 := (hbW.cell (p := ⟨g, N * 6 + 3, none⟩) hgl).trans z3
            replace z4 := (hbW.cell (p := ⟨g, N * 6 + 4, none⟩) hgl).trans z4
            have hqV := Nat.lt_of_lt_of_le rl hbW.size
            have hgV := Nat.lt_of_lt_of_le hgl hbW.size
            have hwr : IntKind.i64.wrap ((l.length : Int) - 1) = (N : Int) := by rw [IntWalk.i64_in _ (by omega)]; omega
            have hlt0 : (0 : Int) ≤ (N : Int) := by omega
            have hlt' : (N : Int) < (l.length : Int) := by omega
            obtain ⟨hz0, hz1, hz2, hz3, hz4⟩ := hzb
            have hwe : IntKind.i64.wrap (y.end_ + 1) = y.end_ + 1 := IntWalk.i64_in _ (by omega)
            have e3 := hB6.cell 3
            have e4 := hB6.cell 4
            have el := hB6.lt
            have ef3 := hB6.frozen 3
            have ef4 := hB6.frozen 4
            clear hrow hcl hN hb6 hbW rl hgl hrnil
            go_wp2
            refine AtE.start (S := fun w' => Upd (· = b6) V w') 15 (by kernel_rfl) (by kernel_rfl) (by exact (Upd.refl _ V).drew) (fun hHeld => ?_)
            refine AtE.take (i := 0) (v := ?_) rfl (by kernel_rfl) (by kernel_rfl) (by kernel_rfl) (fun _ _ _ h => h) (by decide) (Or.inl ⟨by rfl, ?_⟩) hHeld ?_
            rotate_left
            · intro wH hSw; have k0 := (hSw.cell (p := ⟨q, 0, none⟩) hqV hq6).trans r0; have k1 := (hSw.cell (p := ⟨g, N * 6 + 3, none⟩) hgV hg6).trans z3; go_simp; try (with_reducible rfl)
            simp only [Act.put, List.setIfInBounds_toArray, List.set_cons_zero, List.set_cons_succ]
            refine AtE.take (i := 1) (v := ?_) rfl (by kernel_rfl) (by kernel_rfl) (by kernel_rfl) (fun _ _ _ h => h) (by decide) (Or.inl ⟨by rfl, ?_⟩) hHeld ?_
            rotate_left
            · intro wH hSw; have k0 := (hSw.cell (p := ⟨q, 0, none⟩) hqV hq6).trans r0; have k1 := (hSw.cell (p := ⟨g, N * 6 + 3, none⟩) hgV hg6).trans z3; go_simp; try (with_reducible rfl)
            simp only [Act.put, List.setIfInBounds_toArray, List.set_cons_zero, List.set_cons_succ]
            refine AtE.take (i := 2) (v := ?_) rfl (by kernel_rfl) (by kernel_rfl) (by kernel_rfl) (fun _ _ _ h => h) (by decide) (Or.inl ⟨by rfl, ?_⟩) hHeld ?_
            rotate_left
            · intro wH hSw; have k0 := (hSw.cell (p := ⟨q, 0, none⟩) hqV hq6).trans r0; have k1 := (hSw.cell (p := ⟨g, N * 6 + 3, none⟩) hgV hg6).trans z3; go_simp; try (with_reducible rfl)
            simp only [Act.put, List.setIfInBounds_toArray, List.set_cons_zero, List.set_cons_succ]
            refine AtE.take (i := 3) (v := ?_) rfl (by kernel_rfl) (by kernel_rfl) (by kernel_rfl) (fun _ _ _ h => h) (by decide) (Or.inl ⟨by rfl, ?_⟩) hHeld ?_
            rotate_left
            · intro wH hSw; have k0 := (hSw.cell (p := ⟨q, 0, none⟩) hqV hq6).trans r0; have k1 := (hSw.cell (p := ⟨g, N * 6 + 3, none⟩) hgV hg6).trans z3; go_simp; try (with_reducible rfl)
            simp only [Act.put, List.setIfInBounds_toArray, List.set_cons_zero, List.set_cons_succ]
            refine AtE.take (i := 4) (v := ?_) rfl (by kernel_rfl) (by kernel_rfl) (by kernel_rfl) (fun _ _ _ h => h) (by decide) (Or.inl ⟨by rfl, ?_⟩) hHeld ?_
            rotate_left
            · intro wH hSw; have k0 := (hSw.cell (p := ⟨q, 0, none⟩) hqV hq6).trans r0; have k1 := (hSw.cell (p := ⟨g, N * 6 + 3, none⟩) hgV hg6).trans z3; go_simp; try (with_reducible rfl)
            simp only [Act.put, List.setIfInBounds_toArray, List.set_cons_zero, List.set_cons_succ]
            refine AtE.take (i := 5) (v := ?_) rfl (by kernel_rfl) (by kernel_rfl) (by kernel_rfl) (fun _ _ _ h => h) (by decide) (Or.inl ⟨by rfl, ?_⟩) hHeld ?_
            rotate_left
            · intro wH hSw; have k0 := (hSw.cell (p := ⟨q, 0, none⟩) hqV hq6).trans r0; have k1 := (hSw.cell (p := ⟨g, N * 6 + 3, none⟩) hgV hg6).trans z3; go_simp; try (with_reducible rfl)
            simp only [Act.put, List.setIfInBounds_toArray, List.set_cons_zero, List.set_cons_succ]
            refine AtE.take (i := 6) (v := ?_) rfl (by kernel_rfl) (by kernel_rfl) (by kernel_rfl) (fun _ _ _ h => h) (by decide) (Or.inl ⟨by rfl, ?_⟩) hHeld ?_
            rotate_left
            · intro wH hSw; have k0 := (hSw.cell (p := ⟨q, 0, none⟩) hqV hq6).trans r0; have k1 := (hSw.cell (p := ⟨g, N * 6 + 3, none⟩) hgV hg6).trans z3; go_simp; try (with_reducible rfl)
            simp only [Act.put, List.setIfInBounds_toArray, List.set_cons_zero, List.set_cons_succ]
            refine AtE.take (i := 7) (v := ?_) rfl (by kernel_rfl) (by kernel_rfl) (by kernel_rfl) (fun _ _ _ h => h) (by decide) (Or.inl ⟨by rfl, ?_⟩) hHeld ?_
            rotate_left
            · intro wH hSw; have k0 := (hSw.cell (p := ⟨q, 0, none⟩) hqV hq6).trans r0; have k1 := (hSw.cell (p := ⟨g, N * 6 + 3, none⟩) hgV hg6).trans z3; go_simp; try (with_reducible rfl)
            simp only [Act.put, List.setIfInBounds_toArray, List.set_cons_zero, List.set_cons_succ]
            refine AtE.take (i := 8) (v := ?_) rfl (by kernel_rfl) (by kernel_rfl) (by kernel_rfl) (fun _ _ _ h => h) (by decide) (Or.inl ⟨by rfl, ?_⟩) hHeld ?_
            rotate_left
            · intro wH hSw; have k0 := (hSw.cell (p := ⟨q, 0, none⟩) hqV hq6).trans r0; have k1 := (hSw.cell (p := ⟨g, N * 6 + 3, none⟩) hgV hg6).trans z3; go_simp; try (with_reducible rfl)
            simp only [Act.put, List.setIfInBounds_toArray, List.set_cons_zero, List.set_cons_succ]
            refine AtE.take (i := 9) (v := ?_) rfl (by kernel_rfl) (by kernel_rfl) (by kernel_rfl) (fun _ _ _ h => h) (by decide) (Or.inl ⟨by rfl, ?_⟩) hHeld ?_
            rotate_left
            · intro wH hSw; have k0 := (hSw.cell (p := ⟨q, 0, none⟩) hqV hq6).trans r0; have k1 := (hSw.cell (p := ⟨g, N * 6 + 3, none⟩) hgV hg6).trans z3; go_simp; try (with_reducible rfl)
            simp only [Act.put, List.setIfInBounds_toArray, List.set_cons_zero, List.set_cons_succ]
            refine AtE.take (i := 10) (v := ?_) rfl (by kernel_rfl) (by kernel_rfl) (by kernel_rfl) (fun _ _ _ h => h) (by decide) (Or.inl ⟨by rfl, ?_⟩) hHeld ?_
            rotate_left
            · intro wH hSw; have k0 := (hSw.cell (p := ⟨q, 0, none⟩) hqV hq6).trans r0; have k1 := (hSw.cell (p := ⟨g, N * 6 + 3, none⟩) hgV hg6).trans z3; go_simp; try (with_reducible rfl)
            simp only [Act.put, List.setIfInBounds_toArray, List.set_cons_zero, List.set_cons_succ]
            refine AtE.take (i := 11) (v := ?_) rfl (by kernel_rfl) (by kernel_rfl) (by kernel_rfl) (fun _ _ _ h => h) (by decide) (Or.inl ⟨by rfl, ?_⟩) hHeld ?_
            rotate_left
            · intro wH hSw; have k0 := (hSw.cell (p := ⟨q, 0, none⟩) hqV hq6).trans r0; have k1 := (hSw.cell (p := ⟨g, N * 6 + 3, none⟩) hgV hg6).trans z3; go_simp; try (with_reducible rfl)
            simp only [Act.put, List.setIfInBounds_toArray, List.set_cons_zero, List.set_cons_succ]
            refine AtE.take (i := 12) (v := ?_) rfl (by kernel_rfl) (by kernel_rfl) (by kernel_rfl) (fun _ _ _ h => h) (by decide) (Or.inl ⟨by rfl, ?_⟩) hHeld ?_
            rotate_left
            · intro wH hSw; have k0 := (hSw.cell (p := ⟨q, 0, none⟩) hqV hq6).trans r0; have k1 := (hSw.cell (p := ⟨g, N * 6 + 3, none⟩) hgV hg6).trans z3; go_simp; try (with_reducible rfl)
            simp only [Act.put, List.setIfInBounds_toArray, List.set_cons_zero, List.set_cons_succ]
            refine AtE.take (i := 13) (v := ?_) rfl (by kernel_rfl) (by kernel_rfl) (by kernel_rfl) (fun _ _ _ h => h) (by decide) (Or.inl ⟨by rfl, ?_⟩) hHeld ?_
            rotate_left
            · intro wH hSw; have k0 := (hSw.cell (p := ⟨q, 0, none⟩) hqV hq6).trans r0; have k1 := (hSw.cell (p := ⟨g, N * 6 + 3, none⟩) hgV hg6).trans z3; go_simp; try (with_reducible rfl)
            simp only [Act.put, List.setIfInBounds_toArray, List.set_cons_zero, List.set_cons_succ]
            refine AtE.take (i := 14) (v := ?_) rfl (by kernel_rfl) (by kernel_rfl) (by kernel_rfl) (fun _ _ _ h => h) (by decide) (Or.inl ⟨by rfl, ?_⟩) hHeld ?_
            rotate_left
            · intro wH hSw; have k0 := (hSw.cell (p := ⟨q, 0, none⟩) hqV hq6).trans r0; have k1 := (hSw.cell (p := ⟨g, N * 6 + 3, none⟩) hgV hg6).trans z3; go_simp; try (with_reducible rfl)
            simp only [Act.put, List.setIfInBounds_toArray, List.set_cons_zero, List.set_cons_succ]
            refine AtE.one (i := 15) rfl (by kernel_rfl) (fun K hK => ?_)
            go_simp
            refine hK.out _ _ (fun h => absurd rfl h) (fun _ => ?_)
            clear hK K
            refine AtE.done (by kernel_rfl) ?_
            have hu1 := (Upd.refl (· = b6) V).setCell (p := ⟨b6, 3, none⟩) (fun _ => rfl) (.int .i64 (y.end_ + 1))
            have hB7 := hB6.set_ 3 (.int .i64 (y.end_ + 1))
            go_wp2
            refine AtE.start (S := fun w' => Upd (· = b6) V w') 14 (by kernel_rfl) (by kernel_rfl) (by exact (hu1.drew).drew) (fun hHeld => ?_)
            refine AtE.take (i := 0) (v := ?_) rfl (by kernel_rfl) (by kernel_rfl) (by kernel_rfl) (fun _ _ _ h => h) (by decide) (Or.inl ⟨by rfl, ?_⟩) hHeld ?_
            rotate_left
            · intro wH hSw; have k0 := (hSw.cell (p := ⟨q, 0, none⟩) hqV hq6).trans r0; have k1 := (hSw.cell (p := ⟨g, N * 6 + 4, none⟩) hgV hg6).trans z4; go_simp; try (with_reducible rfl)
            simp only [Act.put, List.setIfInBounds_toArray, List.set_cons_zero, List.set_cons_succ]
            refine AtE.take (i := 1) (v := ?_) rfl (by kernel_rfl) (by kernel_rfl) (by kernel_rfl) (fun _ _ _ h => h) (by decide) (Or.inl ⟨by rfl, ?_⟩) hHeld ?_
            rotate_left
            · intro wH hSw; have k0 := (hSw.cell (p := ⟨q, 0, none⟩) hqV hq6).trans r0; have k1 := (hSw.cell (p := ⟨g, N * 6 + 4, none⟩) hgV hg6).trans z4; go_simp; try (with_reducible rfl)
            simp only [Act.put, List.setIfInBounds_toArray, List.set_cons_zero, List.set_cons_succ]
            refine AtE.take (i := 2) (v := ?_) rfl (by kernel_rfl) (by kernel_rfl) (by kernel_rfl) (fun _ _ _ h => h) (by decide) (Or.inl ⟨by rfl, ?_⟩) hHeld ?_
            rotate_left
            · intro wH hSw; have k0 := (hSw.cell (p := ⟨q, 0, none⟩) hqV hq6).trans r0; have k1 := (hSw.cell (p := ⟨g, N * 6 + 4, none⟩) hgV hg6).trans z4; go_simp; try (with_reducible rfl)
            simp only [Act.put, List.setIfInBounds_toArray, List.set_cons_zero, List.set_cons_succ]
            refine AtE.take (i := 3) (v := ?_) rfl (by kernel_rfl) (by kernel_rfl) (by kernel_rfl) (fun _ _ _ h => h) (by decide) (Or.inl ⟨by rfl, ?_⟩) hHeld ?_
            rotate_left
            · intro wH hSw; have k0 := (hSw.cell (p := ⟨q, 0, none⟩) hqV hq6).trans r0; have k1 := (hSw.cell (p := ⟨g, N * 6 + 4, none⟩) hgV hg6).trans z4; go_simp; try (with_reducible rfl)
            simp only [Act.put, List.setIfInBounds_toArray, List.set_cons_zero, List.set_cons_succ]
            refine AtE.take (i := 4) (v := ?_) rfl (by kernel_rfl) (by kernel_rfl) (by kernel_rfl) (fun _ _ _ h => h) (by decide) (Or.inl ⟨by rfl, ?_⟩) hHeld ?_
            rotate_left
            · intro wH hSw; have k0 := (hSw.cell (p := ⟨q, 0, none⟩) hqV hq6).trans r0; have k1 := (hSw.cell (p := ⟨g, N * 6 + 4, none⟩) hgV hg6).trans z4; go_simp; try (with_reducible rfl)
            simp only [Act.put, List.setIfInBounds_toArray, List.set_cons_zero, List.set_cons_succ]
            refine AtE.take (i := 5) (v := ?_) rfl (by kernel_rfl) (by kernel_rfl) (by kernel_rfl) (fun _ _ _ h => h) (by decide) (Or.inl ⟨by rfl, ?_⟩) hHeld ?_
            rotate_left
            · intro wH hSw; have k0 := (hSw.cell (p := ⟨q, 0, none⟩) hqV hq6).trans r0; have k1 := (hSw.cell (p := ⟨g, N * 6 + 4, none⟩) hgV hg6).trans z4; go_simp; try (with_reducible rfl)
            simp only [Act.put, List.setIfInBounds_toArray, List.set_cons_zero, List.set_cons_succ]
            refine AtE.take (i := 6) (v := ?_) rfl (by kernel_rfl) (by kernel_rfl) (by kernel_rfl) (fun _ _ _ h => h) (by decide) (Or.inl ⟨by rfl, ?_⟩) hHeld ?_
            rotate_left
            · intro wH hSw; have k0 := (hSw.cell (p := ⟨q, 0, none⟩) hqV hq6).trans r0; have k1 := (hSw.cell (p := ⟨g, N * 6 + 4, none⟩) hgV hg6).trans z4; go_simp; try (with_reducible rfl)
            simp only [Act.put, List.setIfInBounds_toArray, List.set_cons_zero, List.set_cons_succ]
            refine AtE.take (i := 7) (v := ?_) rfl (by kernel_rfl) (by kernel_rfl) (by kernel_rfl) (fun _ _ _ h => h) (by decide) (Or.inl ⟨by rfl, ?_⟩) hHeld ?_
            rotate_left
            · intro wH hSw; have k0 := (hSw.cell (p := ⟨q, 0, none⟩) hqV hq6).trans r0; have k1 := (hSw.cell (p := ⟨g, N * 6 + 4, none⟩) hgV hg6).trans z4; go_simp; try (with_reducible rfl)
            simp only [Act.put, List.setIfInBounds_toArray, List.set_cons_zero, List.set_cons_succ]
            refine AtE.take (i := 8) (v := ?_) rfl (by kernel_rfl) (by kernel_rfl) (by kernel_rfl) (fun _ _ _ h => h) (by decide) (Or.inl ⟨by rfl, ?_⟩) hHeld ?_
            rotate_left
            · intro wH hSw; have k0 := (hSw.cell (p := ⟨q, 0, none⟩) hqV hq6).trans r0; have k1 := (hSw.cell (p := ⟨g, N * 6 + 4, none⟩) hgV hg6).trans z4; go_simp; try (with_reducible rfl)
            simp only [Act.put, List.setIfInBounds_toArray, List.set_cons_zero, List.set_cons_succ]
            refine AtE.take (i := 9) (v := ?_) rfl (by kernel_rfl) (by kernel_rfl) (by kernel_rfl) (fun _ _ _ h => h) (by decide) (Or.inl ⟨by rfl, ?_⟩) hHeld ?_
            rotate_left
            · intro wH hSw; have k0 := (hSw.cell (p := ⟨q, 0, none⟩) hqV hq6).trans r0; have k1 := (hSw.cell (p := ⟨g, N * 6 + 4, none⟩) hgV hg6).trans z4; go_simp; try (with_reducible rfl)
            simp only [Act.put, List.setIfInBounds_toArray, List.set_cons_zero, List.set_cons_succ]
            refine AtE.take (i := 10) (v := ?_) rfl (by kernel_rfl) (by kernel_rfl) (by kernel_rfl) (fun _ _ _ h => h) (by decide) (Or.inl ⟨by rfl, ?_⟩) hHeld ?_
            rotate_left
            · intro wH hSw; have k0 := (hSw.cell (p := ⟨q, 0, none⟩) hqV hq6).trans r0; have k1 := (hSw.cell (p := ⟨g, N * 6 + 4, none⟩) hgV hg6).trans z4; go_simp; try (with_reducible rfl)
            simp only [Act.put, List.setIfInBounds_toArray, List.set_cons_zero, List.set_cons_succ]
            refine AtE.take (i := 11) (v := ?_) rfl (by kernel_rfl) (by kernel_rfl) (by kernel_rfl) (fun _ _ _ h => h) (by decide) (Or.inl ⟨by rfl, ?_⟩) hHeld ?_
            rotate_left
            · intro wH hSw; have k0 := (hSw.cell (p := ⟨q, 0, none⟩) hqV hq6).trans r0; have k1 := (hSw.cell (p := ⟨g, N * 6 + 4, none⟩) hgV hg6).trans z4; go_simp; try (with_reducible rfl)
            simp only [Act.put, List.setIfInBounds_toArray, List.set_cons_zero, List.set_cons_succ]
            refine AtE.take (i := 12) (v := ?_) rfl (by kernel_rfl) (by kernel_rfl) (by kernel_rfl) (fun _ _ _ h => h) (by decide) (Or.inl ⟨by rfl, ?_⟩) hHeld ?_
            rotate_left
            · intro wH hSw; have k0 := (hSw.cell (p := ⟨q, 0, none⟩) hqV hq6).trans r0; have k1 := (hSw.cell (p := ⟨g, N * 6 + 4, none⟩) hgV hg6).trans z4; go_simp; try (with_reducible rfl)
            simp only [Act.put, List.setIfInBounds_toArray, List.set_cons_zero, List.set_cons_succ]
            refine AtE.take (i := 13) (v := ?_) rfl (by kernel_rfl) (by kernel_rfl) (by kernel_rfl) (fun _ _ _ h => h) (by decide) (Or.inl ⟨by rfl, ?_⟩) hHeld ?_
            rotate_left
            · intro wH hSw; have k0 := (hSw.cell (p := ⟨q, 0, none⟩) hqV hq6).trans r0; have k1 := (hSw.cell (p := ⟨g, N * 6 + 4, none⟩) hgV hg6).trans z4; go_simp; try (with_reducible rfl)
            simp only [Act.put, List.setIfInBounds_toArray, List.set_cons_zero, List.set_cons_succ]
            refine AtE.one (i := 14) rfl (by kernel_rfl) (fun K hK => ?_)
            go_simp
            refine hK.out _ _ (fun h => absurd rfl h) (fun _ => ?_)
            clear hK K
            refine AtE.done (by kernel_rfl) ?_
            go_wp2
            go_meet
            case rel =>
              refine ⟨y.end_ + 1, y.level, ?_, ⟨by omega, by omega, by omega, by omega⟩, ?_⟩
              · exact Blk.drew (Blk.drew (by simpa using hB7.set_ 4 (.int .i64 y.level)))
              · exact ((hu1.setCell (p := ⟨b6, 4, none⟩) (fun _ => rfl) (.int .i64 y.level)).drew).drew
        case rest =>
          obtain ⟨en, lv, hB7, hbnd, hu7⟩ := hcut
          obtain ⟨V7, rfl⟩ : ∃ V7 : World, V7 = wc := ⟨_, rfl⟩
          -- both stores stand, the deed's copy lies apart
          have hT7 : Tw V7 p q U l ∧ Car w U V7 ∧ ¬ U b6 ∧ Below W.heap.size W V7 := by
            have hn6 : ¬ U b6 := fun h => by have := HI.out.1.slt b6 h; have := H6.out.1; omega
            have hb : Below W.heap.size W V7 := H6.out.2.2.trans (hu7.below (B := W.heap.size) H6.out.2.2.size (fun k hk e => by have := H6.out.1; omega))
            exact ⟨HI.out.1.ext hb, HI.out.2.2.step (Step.ext hb), hn6, hb⟩
          have H7 := Lib.hid (And.intro hT7 hB7)
          have HBD := Lib.hid hbnd
          have c0 := hB7.cell 0
          have c1 := hB7.cell 1
          have c2 := hB7.cell 2
          have c3 := hB7.cell 3
          have c4 := hB7.cell 4
          have c5 := hB7.cell 5
          have cl := hB7.lt
          have HLT := Lib.hid (lentTwigs_any x.tree (.slice At x.tree.length ct) V7 (HTI.out V7 hT7.2.1.1) (by omega))
          clear hT7 hB7 hu7 hB6 hbb
          go_upto_block 2 with (first
            | (go_at_call 8; refine HLT.out.mono ?_; rintro e w8 ⟨u, rfl, hlent, hb8⟩
               obtain ⟨rfl, hlb⟩ := hlent
               have hB8 := H7.out.2.ext hb8
               have c0 := hB8.cell 0
               have c1 := hB8.cell 1
               have c2 := hB8.cell 2
               have c3 := hB8.cell 3
               have c4 := hB8.cell 4
               have c5 := hB8.cell 5
               have cl := hB8.lt
               have H8 := Lib.hid (And.intro (H7.out.1.1.ext hb8) (And.intro (H7.out.1.2.1.step (Step.ext hb8)) (And.intro hB8 (And.intro (show LentT w8 (.slice (some ⟨V7.heap.size, 0, none⟩) x.tree.length (x.tree.length + 12)) V7.heap.size x.tree from ⟨rfl, hlb⟩) (show ¬ U V7.heap.size from fun h => by have := H7.out.1.1.slt _ h; omega)))))
               clear hlb hb8 hB8)
            | (go_at_call 7; refine (HPK.out _).mono ?_; rintro e w1 ⟨rfl, rfl⟩))
          have hg8 : ∃ g8, g8 = V7.heap.size ∧ ¬ U b6 := ⟨_, rfl, H7.out.1.2.2.1⟩
          obtain ⟨g8, hg8, hn6⟩ := hg8
          have hg68 : b6 ≠ g8 := by have := H7.out.2.lt; omega
          have hw8 : w.heap.size ≤ g8 := by have := H7.out.1.2.1.1.size; omega
          have hw6 : w.heap.size ≤ b6 := by have := HI.out.2.2.1.size; have := H6.out.1; omega
          rw [← hg8] at H8 ⊢
          have HG := Lib.hid (And.intro hn6 (And.intro hg68 (And.intro hw8 hw6)))
          clear H7 H6 hg8 hn6 hg68 hw8 hw6 HLT
          go_cut [3, 8, 9] from 93 to 153 (fun sv ok ov wx => ok = .bool true ∧ ∃ (p' : Nat) (l' : List Pr) (U' : Nat → Prop), sv = .pointer (some ⟨p', 0, none⟩) ∧ Tw wx p' q U' l' ∧ Bd (k + 1) l' ∧ Step U U' w8 wx)
          case first =>
            obtain ⟨S, R, hs, hr, hdj, rfl⟩ := H8.out.1
            have HS := Lib.hid (And.intro hs (And.intro hr hdj))
            clear hs hr hdj
            have hcases : cc = 0 ∨ cc = 1 ∨ cc = 2 ∨ cc = 3 ∨ cc = 4 ∨ cc = 5 := by omega
            rcases hcases with rfl | rfl | rfl | rfl | rfl | rfl
            · go_wp2
              refine AtE.start (S := fun w' => w'.cell? ⟨b6, 1, none⟩ = some (.int .i64 x.rule) ∧ w'.cell? ⟨b6, 2, none⟩ = some (.int .i64 x.place)) 13 (by kernel_rfl) (by kernel_rfl) (by exact ⟨c1, c2⟩) (fun hHeld => ?_)
              refine AtE.take (i := 0) (v := ?_) rfl (by kernel_rfl) (by kernel_rfl) (by kernel_rfl) (fun _ _ _ h => h) (by decide) (Or.inl ⟨by rfl, ?_⟩) hHeld ?_
              rotate_left
              · intro wH hSw; go_simp; try (with_reducible rfl)
              simp only [Act.put, List.setIfInBounds_toArray, List.set_cons_zero, List.set_cons_succ]
              refine AtE.take (i := 1) (v := ?_) rfl (by kernel_rfl) (by kernel_rfl) (by kernel_rfl) (fun _ _ _ h => h) (by decide) (Or.inl ⟨by rfl, ?_⟩) hHeld ?_
              rotate_left
              · intro wH hSw; go_simp; try (with_reducible rfl)
              simp only [Act.put, List.setIfInBounds_toArray, List.set_cons_zero, List.set_cons_succ]
              refine AtE.take (i := 2) (v := ?_) rfl (by kernel_rfl) (by kernel_rfl) (by kernel_rfl) (fun _ _ _ h => h) (by decide) (Or.inl ⟨by rfl, ?_⟩) hHeld ?_
              rotate_left
              · intro wH hSw; go_simp; try (with_reducible rfl)
              simp only [Act.put, List.setIfInBounds_toArray, List.set_cons_zero, List.set_cons_succ]
              refine AtE.take (i := 3) (v := ?_) rfl (by kernel_rfl) (by kernel_rfl) (by kernel_rfl) (fun _ _ _ h => h) (by decide) (Or.inl ⟨by rfl, ?_⟩) hHeld ?_
              rotate_left
              · intro wH hSw; go_simp; try (with_reducible rfl)
              simp only [Act.put, List.setIfInBounds_toArray, List.set_cons_zero, List.set_cons_succ]
              refine AtE.take (i := 4) (v := ?_) rfl (by kernel_rfl) (by kernel_rfl) (by kernel_rfl) (fun _ _ _ h => h) (by decide) (Or.inl ⟨by rfl, ?_⟩) hHeld ?_
              rotate_left
              · intro wH hSw; go_simp; try (with_reducible rfl)
              simp only [Act.put, List.setIfInBounds_toArray, List.set_cons_zero, List.set_cons_succ]
              refine AtE.take (i := 6) (v := ?_) rfl (by kernel_rfl) (by kernel_rfl) (by kernel_rfl) (fun _ _ _ h => h) (by decide) (Or.inl ⟨by rfl, ?_⟩) hHeld ?_
              rotate_left
              · intro wH hSw; go_simp; try (with_reducible rfl)
              simp only [Act.put, List.setIfInBounds_toArray, List.set_cons_zero, List.set_cons_succ]
              refine AtE.take (i := 7) (v := ?_) rfl (by kernel_rfl) (by kernel_rfl) (by kernel_rfl) (fun _ _ _ h => h) (by decide) (Or.inl ⟨by rfl, ?_⟩) hHeld ?_
              rotate_left
              · intro wH hSw; go_simp; try (with_reducible rfl)
              simp only [Act.put, List.setIfInBounds_toArray, List.set_cons_zero, List.set_cons_succ]
              refine AtE.take (i := 8) (v := ?_) rfl (by kernel_rfl) (by kernel_rfl) (by kernel_rfl) (fun _ _ _ h => h) (by decide) (Or.inl ⟨by rfl, ?_⟩) hHeld ?_
              rotate_left
              · intro wH hSw; go_simp; try (with_reducible rfl)
              simp only [Act.put, List.setIfInBounds_toArray, List.set_cons_zero, List.set_cons_succ]
              refine AtE.take (i := 9) (v := ?_) rfl (by kernel_rfl) (by kernel_rfl) (by kernel_rfl) (fun _ _ _ h => h) (by decide) (Or.inl ⟨by rfl, ?_⟩) hHeld ?_
              rotate_left
              · intro wH hSw; go_simp; try (with_reducible rfl)
              simp only [Act.put, List.setIfInBounds_toArray, List.set_cons_zero, List.set_cons_succ]
              refine AtE.take (i := 10) (v := ?_) rfl (by kernel_rfl) (by kernel_rfl) (by kernel_rfl) (fun _ _ _ h => h) (by decide) (Or.inl ⟨by rfl, ?_⟩) hHeld ?_
              rotate_left
              · intro wH hSw; go_simp; try (with_reducible rfl)
              simp only [Act.put, List.setIfInBounds_toArray, List.set_cons_zero, List.set_cons_succ]
              refine AtE.one (i := 5) rfl (by kernel_rfl) (fun K hK => ?_)
              go_simp
              refine (begin_uni S l x.rule x.place p w8.drew (HS.out.1.ext (ext_refl w8).drew) (by have := HI.out.2.1.len; omega)).mono ?_
              rintro e w9 ⟨T, rfl, hs9, st9, -⟩
              have st9' : Step S T w8 w9 := (Step.ext (ext_refl w8).drew).trans st9
              have hr9 := HS.out.2.1.keep st9'.upd (fun j hj hj' => HS.out.2.2 j hj' hj)
              have hB9 := H8.out.2.2.1.keep st9'.upd (fun h => HG.out.1 (.inl h))
              have d1 := hB9.cell 1; have d2 := hB9.cell 2
              have H9 := Lib.hid (And.intro hs9 (And.intro st9' (And.intro hr9 hB9)))
              refine hK.out _ _ (fun _ => ⟨d1, d2⟩) (fun hHeld' => ?_)
              clear hHeld
              have hHeld := hHeld' (by decide)
              clear hK K hHeld' hs9 st9 st9' hr9 hB9 d1 d2
              refine AtE.one (i := 11) rfl (by kernel_rfl) (fun K hK => ?_)
              go_simp
              refine (beginR_uni x.rule x.place H9.out.2.2.1 (by have := HI.out.2.1.len; omega)).mono ?_
              rintro e w10 ⟨R1, rfl, hr10, st10⟩
              obtain ⟨U10, htw10, st810⟩ := Tw.both HS.out.1 HS.out.2.1 HS.out.2.2 H9.out.1 H9.out.2.1 hr10 st10
              have hB10 := H8.out.2.2.1.keep st810.upd HG.out.1
              have d1 := hB10.cell 1; have d2 := hB10.cell 2
              have H10 := Lib.hid (And.intro htw10 st810)
              refine hK.out _ _ (fun _ => ⟨d1, d2⟩) (fun hHeld' => ?_)
              clear hHeld
              have hHeld := hHeld' (by decide)
              clear hK K hHeld' hr10 st10 htw10 st810 hB10 d1 d2
              refine AtE.take (i := 12) (v := ?_) rfl (by kernel_rfl) (by kernel_rfl) (by kernel_rfl) (fun _ _ _ h => h) (by decide) (Or.inl ⟨by rfl, ?_⟩) hHeld ?_
              rotate_left
              · intro wH hSw; go_simp; try (with_reducible rfl)
              simp only [Act.put, List.setIfInBounds_toArray, List.set_cons_zero, List.set_cons_succ]
              refine AtE.one (i := 13) rfl (by kernel_rfl) (fun K hK => ?_)
              go_simp
              refine hK.out _ _ (fun h => absurd rfl h) (fun _ => ?_)
              clear hK K
              refine AtE.done (by kernel_rfl) ?_
              go_wp2
              go_meet
              case rel => exact ⟨rfl, p, _, U10, rfl, H10.out.1, HI.out.2.1.begin _ _, H10.out.2⟩
            · go_wp2
              refine AtE.start (S := fun w' => w'.cell? ⟨b6, 3, none⟩ = some (.int .i64 en) ∧ w'.cell? ⟨b6, 4, none⟩ = some (.int .i64 lv) ∧ w'.cell? ⟨b6, 5, none⟩ = some (.slice At x.tree.length ct)) 17 (by kernel_rfl) (by kernel_rfl) (by exact ⟨c3, c4, c5⟩) (fun hHeld => ?_)
              refine AtE.take (i := 0) (v := ?_) rfl (by kernel_rfl) (by kernel_rfl) (by kernel_rfl) (fun _ _ _ h => h) (by decide) (Or.inl ⟨by rfl, ?_⟩) hHeld ?_
              rotate_left
              · intro wH hSw; go_simp; try (with_reducible rfl)
              simp only [Act.put, List.setIfInBounds_toArray, List.set_cons_zero, List.set_cons_succ]
              refine AtE.take (i := 1) (v := ?_) rfl (by kernel_rfl) (by kernel_rfl) (by kernel_rfl) (fun _ _ _ h => h) (by decide) (Or.inl ⟨by rfl, ?_⟩) hHeld ?_
              rotate_left
              · intro wH hSw; go_simp; try (with_reducible rfl)
              simp only [Act.put, List.setIfInBounds_toArray, List.set_cons_zero, List.set_cons_succ]
              refine AtE.take (i := 2) (v := ?_) rfl (by kernel_rfl) (by kernel_rfl) (by kernel_rfl) (fun _ _ _ h => h) (by decide) (Or.inl ⟨by rfl, ?_⟩) hHeld ?_
              rotate_left
              · intro wH hSw; go_simp; try (with_reducible rfl)
              simp only [Act.put, List.setIfInBounds_toArray, List.set_cons_zero, List.set_cons_succ]
              refine AtE.take (i := 3) (v := ?_) rfl (by kernel_rfl) (by kernel_rfl) (by kernel_rfl) (fun _ _ _ h => h) (by decide) (Or.inl ⟨by rfl, ?_⟩) hHeld ?_
              rotate_left
              · intro wH hSw; go_simp; try (with_reducible rfl)
              simp only [Act.put, List.setIfInBounds_toArray, List.set_cons_zero, List.set_cons_succ]
              refine AtE.take (i := 4) (v := ?_) rfl (by kernel_rfl) (by kernel_rfl) (by kernel_rfl) (fun _ _ _ h => h) (by decide) (Or.inl ⟨by rfl, ?_⟩) hHeld ?_
              rotate_left
              · intro wH hSw; go_simp; try (with_reducible rfl)
              simp only [Act.put, List.setIfInBounds_toArray, List.set_cons_zero, List.set_cons_succ]
              refine AtE.take (i := 5) (v := ?_) rfl (by kernel_rfl) (by kernel_rfl) (by kernel_rfl) (fun _ _ _ h => h) (by decide) (Or.inl ⟨by rfl, ?_⟩) hHeld ?_
              rotate_left
              · intro wH hSw; go_simp; try (with_reducible rfl)
              simp only [Act.put, List.setIfInBounds_toArray, List.set_cons_zero, List.set_cons_succ]
              refine AtE.take (i := 6) (v := ?_) rfl (by kernel_rfl) (by kernel_rfl) (by kernel_rfl) (fun _ _ _ h => h) (by decide) (Or.inl ⟨by rfl, ?_⟩) hHeld ?_
              rotate_left
              · intro wH hSw; go_simp; try (with_reducible rfl)
              simp only [Act.put, List.setIfInBounds_toArray, List.set_cons_zero, List.set_cons_succ]
              refine AtE.take (i := 8) (v := ?_) rfl (by kernel_rfl) (by kernel_rfl) (by kernel_rfl) (fun _ _ _ h => h) (by decide) (Or.inl ⟨by rfl, ?_⟩) hHeld ?_
              rotate_left
              · intro wH hSw; go_simp; try (with_reducible rfl)
              simp only [Act.put, List.setIfInBounds_toArray, List.set_cons_zero, List.set_cons_succ]
              refine AtE.take (i := 9) (v := ?_) rfl (by kernel_rfl) (by kernel_rfl) (by kernel_rfl) (fun _ _ _ h => h) (by decide) (Or.inl ⟨by rfl, ?_⟩) hHeld ?_
              rotate_left
              · intro wH hSw; go_simp; try (with_reducible rfl)
              simp only [Act.put, List.setIfInBounds_toArray, List.set_cons_zero, List.set_cons_succ]
              refine AtE.take (i := 10) (v := ?_) rfl (by kernel_rfl) (by kernel_rfl) (by kernel_rfl) (fun _ _ _ h => h) (by decide) (Or.inl ⟨by rfl, ?_⟩) hHeld ?_
              rotate_left
              · intro wH hSw; go_simp; try (with_reducible rfl)
              simp only [Act.put, List.setIfInBounds_toArray, List.set_cons_zero, List.set_cons_succ]
              refine AtE.take (i := 11) (v := ?_) rfl (by kernel_rfl) (by kernel_rfl) (by kernel_rfl) (fun _ _ _ h => h) (by decide) (Or.inl ⟨by rfl, ?_⟩) hHeld ?_
              rotate_left
              · intro wH hSw; go_simp; try (with_reducible rfl)
              simp only [Act.put, List.setIfInBounds_toArray, List.set_cons_zero, List.set_cons_succ]
              refine AtE.take (i := 12) (v := ?_) rfl (by kernel_rfl) (by kernel_rfl) (by kernel_rfl) (fun _ _ _ h => h) (by decide) (Or.inl ⟨by rfl, ?_⟩) hHeld ?_
              rotate_left
              · intro wH hSw; go_simp; try (with_reducible rfl)
              simp only [Act.put, List.setIfInBounds_toArray, List.set_cons_zero, List.set_cons_succ]
              refine AtE.take (i := 13) (v := ?_) rfl (by kernel_rfl) (by kernel_rfl) (by kernel_rfl) (fun _ _ _ h => h) (by decide) (Or.inl ⟨by rfl, ?_⟩) hHeld ?_
              rotate_left
              · intro wH hSw; go_simp; try (with_reducible rfl)
              simp only [Act.put, List.setIfInBounds_toArray, List.set_cons_zero, List.set_cons_succ]
              refine AtE.take (i := 14) (v := ?_) rfl (by kernel_rfl) (by kernel_rfl) (by kernel_rfl) (fun _ _ _ h => h) (by decide) (Or.inl ⟨by rfl, ?_⟩) hHeld ?_
              rotate_left
              · intro wH hSw; go_simp; try (with_reducible rfl)
              simp only [Act.put, List.setIfInBounds_toArray, List.set_cons_zero, List.set_cons_succ]
              refine AtE.one (i := 7) rfl (by kernel_rfl) (fun K hK => ?_)
              go_simp
              refine (grow_uni S l en lv _ x.tree p w8.drew (HS.out.1.ext (ext_refl w8).drew) ((H8.out.2.2.2.1.ext (ext_refl w8).drew).twgs (by omega)) (by omega)).mono ?_
              rintro e w9 ⟨T, rfl, hs9, st9, -⟩
              have st9' : Step S T w8 w9 := (Step.ext (ext_refl w8).drew).trans st9
              have hr9 := HS.out.2.1.keep st9'.upd (fun j hj hj' => HS.out.2.2 j hj' hj)
              have hB9 := H8.out.2.2.1.keep st9'.upd (fun h => HG.out.1 (.inl h))
              have d3 := hB9.cell 3; have d4 := hB9.cell 4; have d5 := hB9.cell 5
              have H9 := Lib.hid (And.intro hs9 (And.intro st9' (And.intro hr9 hB9)))
              refine hK.out _ _ (fun _ => ⟨d3, d4, d5⟩) (fun hHeld' => ?_)
              clear hHeld
              have hHeld := hHeld' (by decide)
              clear hK K hHeld' hs9 st9 st9' hr9 hB9 d3 d4 d5
              refine AtE.one (i := 15) rfl (by kernel_rfl) (fun K hK => ?_)
              go_simp
              refine (growR_uni en lv _ x.tree H9.out.2.2.1 (HTI.out _ ((H8.out.2.1.1.trans (H9.out.2.1.upd.below (B := w.heap.size) H8.out.2.1.1.size (fun j hj hS => by have := H8.out.2.1.2 j (.inl hS); omega))))) (by omega)).mono ?_
              rintro e w10 ⟨R1, rfl, hr10, st10⟩
              obtain ⟨U10, htw10, st810⟩ := Tw.both HS.out.1 HS.out.2.1 HS.out.2.2 H9.out.1 H9.out.2.1 hr10 st10
              have hB10 := H8.out.2.2.1.keep st810.upd HG.out.1
              have d3 := hB10.cell 3; have d4 := hB10.cell 4; have d5 := hB10.cell 5
              have H10 := Lib.hid (And.intro htw10 st810)
              refine hK.out _ _ (fun _ => ⟨d3, d4, d5⟩) (fun hHeld' => ?_)
              clear hHeld
              have hHeld := hHeld' (by decide)
              clear hK K hHeld' hr10 st10 htw10 st810 hB10 d3 d4 d5
              refine AtE.take (i := 16) (v := ?_) rfl (by kernel_rfl) (by kernel_rfl) (by kernel_rfl) (fun _ _ _ h => h) (by decide) (Or.inl ⟨by rfl, ?_⟩) hHeld ?_
              rotate_left
              · intro wH hSw; go_simp; try (with_reducible rfl)
              simp only [Act.put, List.setIfInBounds_toArray, List.set_cons_zero, List.set_cons_succ]
              refine AtE.one (i := 17) rfl (by kernel_rfl) (fun K hK => ?_)
              go_simp
              refine hK.out _ _ (fun h => absurd rfl h) (fun _ => ?_)
              clear hK K
              refine AtE.done (by kernel_rfl) ?_
              go_wp2
              go_meet
              case rel => exact ⟨rfl, p, _, U10, rfl, H10.out.1, HI.out.2.1.grow en lv x.tree (by omega) HBD.out.1 HBD.out.2.1 HBD.out.2.2.1 HBD.out.2.2.2, H10.out.2⟩
            · go_wp2_with (first
                | (go_at_call 13; refine (end_uni S l p w8 HS.out.1).mono ?_; rintro e w9 ⟨T, rfl, hs9, st9, -⟩
                   have hr9 := HS.out.2.1.keep st9.upd (fun j hj hj' => HS.out.2.2 j hj' hj)
                   have H9 := Lib.hid (And.intro hs9 (And.intro st9 hr9))
                   clear hs9 st9 hr9)
                | (go_at_call 14; refine (endR_uni H9.out.2.2).mono ?_; rintro e w10 ⟨R1, rfl, hr10, st10⟩
                   obtain ⟨U10, htw10, st810⟩ := Tw.both HS.out.1 HS.out.2.1 HS.out.2.2 H9.out.1 H9.out.2.1 hr10 st10
                   have H10 := Lib.hid (And.intro htw10 st810)
                   clear hr10 st10 htw10 st810))
              go_meet
              case rel => exact ⟨rfl, p, _, U10, rfl, H10.out.1, HI.out.2.1.pop, H10.out.2⟩
            · go_wp2
              go_meet
              case rel => exact ⟨rfl, p, l, _, rfl, H8.out.1, HI.out.2.1.mono (by omega), Step.refl _ _⟩
            · go_wp2_with (first
                | (go_at_call 15; refine (copy_uni S l p w8 HS.out.1 (by have := HI.out.2.1.len; omega)).mono ?_; rintro e w9 ⟨q2, T2, rfl, hs2, hb9, hT2⟩
                   have hB9 := H8.out.2.2.1.ext hb9
                   have c0 := hB9.cell 0
                   have c1 := hB9.cell 1
                   have c2 := hB9.cell 2
                   have c3 := hB9.cell 3
                   have c4 := hB9.cell 4
                   have c5 := hB9.cell 5
                   have cl := hB9.lt
                   have H9 := Lib.hid (And.intro hs2 (And.intro hb9 (And.intro hT2 (And.intro (HS.out.1.ext hb9) (And.intro (HS.out.2.1.ext hb9) hB9)))))
                   clear hs2 hb9 hT2 hB9)
                | (go_at_call 11; refine (grow_uni S l 1125899906842624 lv _ x.tree p w9 H9.out.2.2.2.1 ((H8.out.2.2.2.1.ext H9.out.2.1).twgs (by omega)) (by omega)).mono ?_; rintro e w10 ⟨T3, rfl, hs3, st3, nt3⟩
                   have hB10 := H9.out.2.2.2.2.2.keep st3.upd (fun h => HG.out.1 (.inl h))
                   have c0 := hB10.cell 0
                   have c1 := hB10.cell 1
                   have c2 := hB10.cell 2
                   have c3 := hB10.cell 3
                   have c4 := hB10.cell 4
                   have c5 := hB10.cell 5
                   have cl := hB10.lt
                   have H10 := Lib.hid (And.intro hs3 (And.intro st3 (And.intro nt3 hB10)))
                   clear hs3 st3 nt3 hB10)
                | (go_at_call 13; refine (end_uni T3 (growA l 1125899906842624 lv x.tree).2 p w10 H10.out.1).mono ?_; rintro e w11 ⟨T4, rfl, hs4, st4, nt4⟩
                   have st4' := H10.out.2.1.trans st4
                   have hB11 := H9.out.2.2.2.2.2.keep st4'.upd (fun h => HG.out.1 (.inl h))
                   have c0 := hB11.cell 0
                   have c1 := hB11.cell 1
                   have c2 := hB11.cell 2
                   have c3 := hB11.cell 3
                   have c4 := hB11.cell 4
                   have c5 := hB11.cell 5
                   have cl := hB11.lt
                   have H11 := Lib.hid (And.intro hs4 (And.intro st4' (NT.trans H10.out.2.1 H10.out.2.2.1 nt4)))
                   clear hs4 st4 st4' nt4 hB11)
                | (go_at_call 9; refine (begin_uni T4 (endA (growA l 1125899906842624 lv x.tree).2).2 x.rule x.place p w11 H11.out.1 (by have := (HI.out.2.1.grow 0 0 x.tree (by omega) (by omega) (by omega) (by omega) (by omega)).len; have := HI.out.2.1.len; have h1 := growA_len l 1125899906842624 lv x.tree; have h2 := endA_len (growA l 1125899906842624 lv x.tree).2; omega)).mono ?_; rintro e w12 ⟨T5, rfl, hs5, st5, nt5⟩
                   have H12 := Lib.hid (And.intro (H11.out.2.1.trans st5) (NT.trans H11.out.2.1 H11.out.2.2 nt5))
                   clear hs5 st5 nt5))
              go_meet
              case rel =>
                have hT := H9.out.2.2.1
                have hb9 := H9.out.2.1
                have hs12 := H9.out.1.keep H12.out.2 (fun j hj hn => by
                  rcases hT j hj with h | ⟨_, cur, hbl⟩
                  · have := HS.out.1.slt j hn.1; omega
                  · exact hn.2 cur (hbl.ext hb9))
                have hr12 := H9.out.2.2.2.2.1.keep H12.out.1.upd (fun j hj hS => HS.out.2.2 j hS hj)
                have hTR : ∀ j, T2 j → ¬ R j := fun j hj hR => by
                  rcases hT j hj with h | ⟨hS, _⟩
                  · have := HS.out.2.1.slt j hR; omega
                  · exact HS.out.2.2 j hS hR
                refine ⟨rfl, q2, l, fun j => T2 j ∨ R j, rfl, ⟨T2, R, hs12, hr12, hTR, rfl⟩, HI.out.2.1.mono (by omega), ⟨(Upd.of_ext hb9).trans (H12.out.1.upd.mono (fun j _ hj => .inl hj)), fun j hj => ?_⟩⟩
                rcases hj with hj | hj
                · rcases hT j hj with h | ⟨hS, _⟩
                  · exact .inr h
                  · exact .inl (.inl hS)
                · exact .inl (.inr hj)
            · go_wp2
              refine AtE.start (S := fun w' => w'.cell? ⟨b6, 3, none⟩ = some (.int .i64 en) ∧ w'.cell? ⟨b6, 4, none⟩ = some (.int .i64 lv) ∧ w'.cell? ⟨b6, 5, none⟩ = some (.slice At x.tree.length ct)) 17 (by kernel_rfl) (by kernel_rfl) (by exact ⟨c3, c4, c5⟩) (fun hHeld => ?_)
              refine AtE.take (i := 0) (v := ?_) rfl (by kernel_rfl) (by kernel_rfl) (by kernel_rfl) (fun _ _ _ h => h) (by decide) (Or.inl ⟨by rfl, ?_⟩) hHeld ?_
              rotate_left
              · intro wH hSw; go_simp; try (with_reducible rfl)
              simp only [Act.put, List.setIfInBounds_toArray, List.set_cons_zero, List.set_cons_succ]
              refine AtE.take (i := 1) (v := ?_) rfl (by kernel_rfl) (by kernel_rfl) (by kernel_rfl) (fun _ _ _ h => h) (by decide) (Or.inl ⟨by rfl, ?_⟩) hHeld ?_
              rotate_left
              · intro wH hSw; go_simp; try (with_reducible rfl)
              simp only [Act.put, List.setIfInBounds_toArray, List.set_cons_zero, List.set_cons_succ]
              refine AtE.take (i := 2) (v := ?_) rfl (by kernel_rfl) (by kernel_rfl) (by kernel_rfl) (fun _ _ _ h => h) (by decide) (Or.inl ⟨by rfl, ?_⟩) hHeld ?_
              rotate_left
              · intro wH hSw; go_simp; try (with_reducible rfl)
              simp only [Act.put, List.setIfInBounds_toArray, List.set_cons_zero, List.set_cons_succ]
              refine AtE.take (i := 3) (v := ?_) rfl (by kernel_rfl) (by kernel_rfl) (by kernel_rfl) (fun _ _ _ h => h) (by decide) (Or.inl ⟨by rfl, ?_⟩) hHeld ?_
              rotate_left
              · intro wH hSw; go_simp; try (with_reducible rfl)
              simp only [Act.put, List.setIfInBounds_toArray, List.set_cons_zero, List.set_cons_succ]
              refine AtE.take (i := 4) (v := ?_) rfl (by kernel_rfl) (by kernel_rfl) (by kernel_rfl) (fun _ _ _ h => h) (by decide) (Or.inl ⟨by rfl, ?_⟩) hHeld ?_
              rotate_left
              · intro wH hSw; go_simp; try (with_reducible rfl)
              simp only [Act.put, List.setIfInBounds_toArray, List.set_cons_zero, List.set_cons_succ]
              refine AtE.take (i := 5) (v := ?_) rfl (by kernel_rfl) (by kernel_rfl) (by kernel_rfl) (fun _ _ _ h => h) (by decide) (Or.inl ⟨by rfl, ?_⟩) hHeld ?_
              rotate_left
              · intro wH hSw; go_simp; try (with_reducible rfl)
              simp only [Act.put, List.setIfInBounds_toArray, List.set_cons_zero, List.set_cons_succ]
              refine AtE.take (i := 6) (v := ?_) rfl (by kernel_rfl) (by kernel_rfl) (by kernel_rfl) (fun _ _ _ h => h) (by decide) (Or.inl ⟨by rfl, ?_⟩) hHeld ?_
              rotate_left
              · intro wH hSw; go_simp; try (with_reducible rfl)
              simp only [Act.put, List.setIfInBounds_toArray, List.set_cons_zero, List.set_cons_succ]
              refine AtE.take (i := 8) (v := ?_) rfl (by kernel_rfl) (by kernel_rfl) (by kernel_rfl) (fun _ _ _ h => h) (by decide) (Or.inl ⟨by rfl, ?_⟩) hHeld ?_
              rotate_left
              · intro wH hSw; go_simp; try (with_reducible rfl)
              simp only [Act.put, List.setIfInBounds_toArray, List.set_cons_zero, List.set_cons_succ]
              refine AtE.take (i := 9) (v := ?_) rfl (by kernel_rfl) (by kernel_rfl) (by kernel_rfl) (fun _ _ _ h => h) (by decide) (Or.inl ⟨by rfl, ?_⟩) hHeld ?_
              rotate_left
              · intro wH hSw; go_simp; try (with_reducible rfl)
              simp only [Act.put, List.setIfInBounds_toArray, List.set_cons_zero, List.set_cons_succ]
              refine AtE.take (i := 10) (v := ?_) rfl (by kernel_rfl) (by kernel_rfl) (by kernel_rfl) (fun _ _ _ h => h) (by decide) (Or.inl ⟨by rfl, ?_⟩) hHeld ?_
              rotate_left
              · intro wH hSw; go_simp; try (with_reducible rfl)
              simp only [Act.put, List.setIfInBounds_toArray, List.set_cons_zero, List.set_cons_succ]
              refine AtE.take (i := 11) (v := ?_) rfl (by kernel_rfl) (by kernel_rfl) (by kernel_rfl) (fun _ _ _ h => h) (by decide) (Or.inl ⟨by rfl, ?_⟩) hHeld ?_
              rotate_left
              · intro wH hSw; go_simp; try (with_reducible rfl)
              simp only [Act.put, List.setIfInBounds_toArray, List.set_cons_zero, List.set_cons_succ]
              refine AtE.take (i := 12) (v := ?_) rfl (by kernel_rfl) (by kernel_rfl) (by kernel_rfl) (fun _ _ _ h => h) (by decide) (Or.inl ⟨by rfl, ?_⟩) hHeld ?_
              rotate_left
              · intro wH hSw; go_simp; try (with_reducible rfl)
              simp only [Act.put, List.setIfInBounds_toArray, List.set_cons_zero, List.set_cons_succ]
              refine AtE.take (i := 13) (v := ?_) rfl (by kernel_rfl) (by kernel_rfl) (by kernel_rfl) (fun _ _ _ h => h) (by decide) (Or.inl ⟨by rfl, ?_⟩) hHeld ?_
              rotate_left
              · intro wH hSw; go_simp; try (with_reducible rfl)
              simp only [Act.put, List.setIfInBounds_toArray, List.set_cons_zero, List.set_cons_succ]
              refine AtE.take (i := 14) (v := ?_) rfl (by kernel_rfl) (by kernel_rfl) (by kernel_rfl) (fun _ _ _ h => h) (by decide) (Or.inl ⟨by rfl, ?_⟩) hHeld ?_
              rotate_left
              · intro wH hSw; go_simp; try (with_reducible rfl)
              simp only [Act.put, List.setIfInBounds_toArray, List.set_cons_zero, List.set_cons_succ]
              refine AtE.one (i := 7) rfl (by kernel_rfl) (fun K hK => ?_)
              go_simp
              refine (grow_uni S l en lv _ x.tree p w8.drew (HS.out.1.ext (ext_refl w8).drew) ((H8.out.2.2.2.1.ext (ext_refl w8).drew).twgs (by omega)) (by omega)).mono ?_
              rintro e w9 ⟨T, rfl, hs9, st9, -⟩
              have st9' : Step S T w8 w9 := (Step.ext (ext_refl w8).drew).trans st9
              have hr9 := HS.out.2.1.keep st9'.upd (fun j hj hj' => HS.out.2.2 j hj' hj)
              have hB9 := H8.out.2.2.1.keep st9'.upd (fun h => HG.out.1 (.inl h))
              have d3 := hB9.cell 3; have d4 := hB9.cell 4; have d5 := hB9.cell 5
              have H9 := Lib.hid (And.intro hs9 (And.intro st9' (And.intro hr9 hB9)))
              refine hK.out _ _ (fun _ => ⟨d3, d4, d5⟩) (fun hHeld' => ?_)
              clear hHeld
              have hHeld := hHeld' (by decide)
              clear hK K hHeld' hs9 st9 st9' hr9 hB9 d3 d4 d5
              refine AtE.one (i := 15) rfl (by kernel_rfl) (fun K hK => ?_)
              go_simp
              refine (growR_uni en lv _ x.tree H9.out.2.2.1 (HTI.out _ ((H8.out.2.1.1.trans (H9.out.2.1.upd.below (B := w.heap.size) H8.out.2.1.1.size (fun j hj hS => by have := H8.out.2.1.2 j (.inl hS); omega))))) (by omega)).mono ?_
              rintro e w10 ⟨R1, rfl, hr10, st10⟩
              obtain ⟨U10, htw10, st810⟩ := Tw.both HS.out.1 HS.out.2.1 HS.out.2.2 H9.out.1 H9.out.2.1 hr10 st10
              have hB10 := H8.out.2.2.1.keep st810.upd HG.out.1
              have d3 := hB10.cell 3; have d4 := hB10.cell 4; have d5 := hB10.cell 5
              have H10 := Lib.hid (And.intro htw10 st810)
              refine hK.out _ _ (fun _ => ⟨d3, d4, d5⟩) (fun hHeld' => ?_)
              clear hHeld
              have hHeld := hHeld' (by decide)
              clear hK K hHeld' hr10 st10 htw10 st810 hB10 d3 d4 d5
              refine AtE.take (i := 16) (v := ?_) rfl (by kernel_rfl) (by kernel_rfl) (by kernel_rfl) (fun _ _ _ h => h) (by decide) (Or.inl ⟨by rfl, ?_⟩) hHeld ?_
              rotate_left
              · intro wH hSw; go_simp; try (with_reducible rfl)
              simp only [Act.put, List.setIfInBounds_toArray, List.set_cons_zero, List.set_cons_succ]
              refine AtE.one (i := 17) rfl (by kernel_rfl) (fun K hK => ?_)
              go_simp
              refine hK.out _ _ (fun h => absurd rfl h) (fun _ => ?_)
              clear hK K
              refine AtE.done (by kernel_rfl) ?_
              go_wp2
              go_meet
              case rel => exact ⟨rfl, p, _, U10, rfl, H10.out.1, HI.out.2.1.grow en lv x.tree (by omega) HBD.out.1 HBD.out.2.1 HBD.out.2.2.1 HBD.out.2.2.2, H10.out.2⟩
          case rest =>
            obtain ⟨rfl, p', l', U', rfl, htw, hbd, hst⟩ := hcut
            obtain ⟨X, rfl⟩ : ∃ X : World, X = wc := ⟨_, rfl⟩
            have hB9 := H8.out.2.2.1.keep hst.upd HG.out.1
            have hL9 := H8.out.2.2.2.1.keep hst.upd H8.out.2.2.2.2
            have hng := hst.far H8.out.2.2.2.1.2.lt H8.out.2.2.2.2
            have hC9 := H8.out.2.1.step hst
            have c0 := hB9.cell 0
            have c1 := hB9.cell 1
            have c2 := hB9.cell 2
            have c3 := hB9.cell 3
            have c4 := hB9.cell 4
            have c5 := hB9.cell 5
            have cl := hB9.lt
            have H9 := Lib.hid (And.intro htw (And.intro hC9 (And.intro hB9 (And.intro hL9 (And.intro hng hbd)))))
            clear htw hC9 hB9 hL9 hng hbd hst
            go_wp2_with (first
              | (go_at_call 16; refine (keptTwigs_any x.tree _ _ g8 _ H9.out.2.2.2.1 (HTI.out _ H9.out.2.1.1) (by omega)).mono ?_; rintro e Y ⟨rfl, hbY⟩
                 have HY := Lib.hid hbY
                 clear hbY)
              | (go_at_call 17; refine (overLent_any x.tree _ g8 _ (H9.out.2.2.2.1.ext HY.out) (by omega)).mono ?_; rintro e Z ⟨rfl, huZ⟩
                 have hBZ := (H9.out.2.2.1.ext HY.out).keep huZ HG.out.2.1
                 have c0 := hBZ.cell 0
                 have c1 := hBZ.cell 1
                 have c2 := hBZ.cell 2
                 have c3 := hBZ.cell 3
                 have c4 := hBZ.cell 4
                 have c5 := hBZ.cell 5
                 have cl := hBZ.lt
                 have HZ := Lib.hid (And.intro ((H9.out.1.ext HY.out).keep huZ (fun j hj e => H9.out.2.2.2.2.1 (e ▸ hj))) ((H9.out.2.1.step (Step.ext HY.out)).side huZ (fun j e => by have := HG.out.2.2.1; omega)))
                 clear hBZ huZ)
              | (go_at_call 18
                 obtain ⟨S9, R9, hs9, hr9, _, _⟩ := HZ.out.1
                 refine (same_any p' q (k + 1) S9 R9 l' x.rule x.place lv Z hs9 hr9 H9.out.2.2.2.2.2 (by omega) ⟨HBD.out.1, HBD.out.2.1⟩).mono ?_; rintro e we ⟨rfl, hbe⟩
                 have HBE := Lib.hid hbe
                 clear hbe hs9 hr9))
            go_roundw
            case rel =>
              exact ⟨k + 1, p', l', U', by omega, rfl, by go_num, HZ.out.1.ext HBE.out, H9.out.2.2.2.2.2, HZ.out.2.step (Step.ext HBE.out)⟩
            case measure => simp [intOf]; omega
    · obtain rfl : k = ds.length := by omega
      have HC := Lib.hid hcar
      clear htw hbd hcar
      go_wp2_with (first
        | (go_at_call 5; refine (HA.out _).mono ?_; rintro e w9 ⟨rfl, hb9⟩))
      go_ret
      exact ⟨rfl, HC.out.1.trans (hb9.mono HC.out.1.size)⟩
end Go.Proofs.Ytchmlhceidociaa
