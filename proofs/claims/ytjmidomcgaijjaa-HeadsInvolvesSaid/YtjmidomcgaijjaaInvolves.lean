/- HeadsInvolves: the walk. -/
import Derived.Test.YtjmidomcgaijjaaIn
import Derived.Deep.Cut
import Derived.Deep.CutRange
import Derived.BigQuiet
namespace Go.Proofs.Ytjmidomcgaijjaa
set_option linter.unusedVariables false
open Go.RowKit

set_option maxRecDepth 100000 in
set_option maxHeartbeats 40000000 in
theorem involves_law (v : Value) (xs : List Stp) (w : World) (h : Steps w v xs) :
    Calls Try.prog 3 #[v] w fun e w' => e = .returned (.bool true) ∧ Below w.heap.size w w' := by
  obtain ⟨A, c, rfl, hc, hm, hi, hcells⟩ := h
  unfold maxLen at hm
  obtain ⟨iI, ii, iz0, iz1, iz2⟩ := info_parts (P := Try.prog) (e := 38) (z := .slice none 0 0) (size := 1) (bytes := 24) (by kernel_rfl)
  obtain ⟨iN, ni, nz0, nz1, nz2⟩ := info_parts (P := Try.prog) (e := 3) (z := .int .i64 0) (size := 1) (bytes := 8) (by kernel_rfl)
  have HA := Lib.hid (fun W => awake_any W)
  by_cases hbig : 100 < xs.length
  · have hbig' : (100 : Int) < (xs.length : Int) := by omega
    have hd : decide ((100 : Int) < (xs.length : Int)) = true := by simp; omega
    go_enter Try.func3, Try.ntmps3
    go_wp2_with (first
      | (go_at_call 8; refine (HA.out _).mono ?_; rintro e w1 ⟨rfl, hb1⟩))
    go_ret
    exact ⟨rfl, hb1⟩
  have hd : decide ((100 : Int) < (xs.length : Int)) = false := by simp; omega
  have HI := Lib.hid hi
  have hle : xs.length ≤ 100 := by omega
  clear hbig hi
  go_enter Try.func3, Try.ntmps3
  go_wp2_with (first
    | (go_at_call 8; refine (HA.out _).mono ?_; rintro e w1 ⟨rfl, hb1⟩)
    | (go_at_call 9; refine (new_uni _).mono ?_; rintro e w2 ⟨p, T1, rfl, hs2, ht2, hb2⟩; have hst := start_HH hs2 ht2 hb2))
  obtain ⟨F0, hh0, htm0, hcar0⟩ := hst
  have hcar0 : Car w F0 (w2.alloc (.cells #[.pointer (some ⟨p, 0, none⟩), .slice none 0 0, .slice none 0 0, .slice none 0 0, .int .i64 0] 31)) := ⟨hb1.trans (hcar0.1.mono hb1.size), fun k hk => Nat.le_trans hb1.size (hcar0.2 k hk)⟩
  generalize (w2.alloc (.cells #[.pointer (some ⟨p, 0, none⟩), .slice none 0 0, .slice none 0 0, .slice none 0 0, .int .i64 0] 31)) = w3 at *
  generalize w2.heap.size = q at *
  clear hs2 ht2 hb2 hb1
  go_loopw [4, 5] (fun inv i wr => ∃ k : Nat, k ≤ xs.length ∧ i = .int .i64 k ∧ ∃ F H I vs, InC wr w.heap.size inv vs I ∧ HH wr q p F H (frsOf H I) ∧ Tm H I k ∧ Car w F wr) (fun _ i _ => xs.length - (intOf i).toNat)
  case atStart => exact ⟨0, Nat.zero_le _, rfl, _, _, _, _, InC.nil _ _, hh0, htm0, hcar0⟩
  case round =>
    obtain ⟨k, hk, rfl, F, H, I, vs, hin, hh, htm, hcar⟩ := hrel
    clear hh0 htm0 hcar0
    obtain ⟨Ai, ci, rfl⟩ := ownsRow_form hin.row
    by_cases hlt : k < xs.length
    · obtain ⟨b, o, rfl, hbl, hcell⟩ := hcells (by omega)
      have g := hcell k hlt
      have hrule := HI.out _ (List.getElem_mem hlt)
      have k0 : wr.cell? ⟨b, o + k * 3, none⟩ = some (.int .i64 xs[k].what) := (hcar.1.cell (p := ⟨b, o + k * 3, none⟩) hbl).trans g.1
      have k1 : wr.cell? ⟨b, o + k * 3 + 1, none⟩ = some (.int .i64 xs[k].rule) := (hcar.1.cell (p := ⟨b, o + k * 3 + 1, none⟩) hbl).trans g.2.1
      have k2 : wr.cell? ⟨b, o + k * 3 + 2, none⟩ = some (.bool xs[k].on) := (hcar.1.cell (p := ⟨b, o + k * 3 + 2, none⟩) hbl).trans g.2.2
      have hlk : (k : Int) < (xs.length : Int) := by omega
      generalize xs[k] = x at *
      have HD := Lib.hid (fun W (hb : Below wr.heap.size wr W) => do_any q p F H I k x W (hh.ext hb) htm (by omega))
      have HTM := Lib.hid (htm.hdo (x := x) hrule)
      obtain ⟨⟨H', I'⟩, hHI⟩ : ∃ HI', hdo k x (H, I) = HI' := ⟨_, rfl⟩
      have hcs := hdo_cases x htm H' I' hHI
      rw [hHI] at HTM
      simp only [hHI] at HD
      have HLI := Lib.hid htm.li
      have HTMI := Lib.hid htm
      have HIN := Lib.hid (And.intro hin (And.intro hh hcar))
      obtain ⟨S0, vl0, vr0, vt0, hc0, hs0, hF0⟩ := hh
      obtain ⟨Al0, cl0, rfl, -⟩ := hc0.lform
      obtain ⟨Ar0, cr0, rfl, -⟩ := hc0.rform
      have a1 := hc0.c1
      have a2 := hc0.c2
      have hl64 : H.l.length ≤ 1000 := by have := htm.ll; omega
      have hr64 : H.reads.length ≤ 1000 := by have := htm.lr; omega
      clear g hcell hcells hHI hrule htm hin hcar hc0 hs0 hF0
      have HCS := Lib.hid hcs
      have hI64 : I.length ≤ 1000 := by have := HLI.out; omega
      clear hcs
      go_wp2
      go_quiet (fail)
      go_upto_if 52 with (first
        | (go_at_call 10; refine (HD.out _ ?_).mono ?_; exact drew_ext ⟨nq, rfl⟩; rintro e w4 ⟨rfl, F5, ⟨S4, vl4, vr4, vt4, hc4, hs4, rfl⟩, st4⟩
           have hcar4 := (HIN.out.2.2.step (Step.ext (drew_ext ⟨nq, rfl⟩))).step st4
           have hin4 := (HIN.out.1.ext (drew_ext ⟨nq, rfl⟩)).keep st4.upd (fun k hk => (HIN.out.1.ext (drew_ext ⟨nq, rfl⟩)).not (HIN.out.2.1.ext (drew_ext ⟨nq, rfl⟩)) hk)
           have HC4 := Lib.hid (And.intro hc4 (And.intro hs4 (And.intro hin4 hcar4)))
           obtain ⟨A4, c4, rfl, -⟩ := hc4.lform
           obtain ⟨R4, r4, rfl, -⟩ := hc4.rform
           have z1 := hc4.c1
           have z2 := hc4.c2
           have zl := hc4.blk.lt
           clear k0 k1 k2 a1 a2 HD HIN st4 hcar4 hin4 hc4 hs4))
      obtain ⟨F4, hF4⟩ : ∃ F4, F4 = fun k => S4 k ∨ HFoot q (.slice A4 H'.l.length c4) (.slice R4 H'.reads.length r4) vt4 k := ⟨_, rfl⟩
      have HF4 := Lib.hid hF4
      rw [← hF4] at HC4
      clear hF4
      obtain ⟨I1, hI1⟩ : ∃ I1, I1 = if H.l.length < H'.l.length then I ++ [[]] else I := ⟨_, rfl⟩
      have HI1 := Lib.hid hI1
      clear hI1
      have hd64 : H'.l.length ≤ 1000 := by have := HTM.out.ll; omega
      have hr64 : H'.reads.length ≤ 1000 := by have := HTM.out.lr; omega
      go_cut [4] from 28 to 105 (fun iv wx => ∃ vs1, InC wx w.heap.size iv vs1 I1 ∧ HisC wx q p (.slice A4 H'.l.length c4) (.slice R4 H'.reads.length r4) vt4 H' ∧ HS wx p S4 (frsOf H' I') ∧ Car w F4 wx)
      case first =>
        rcases HCS.out with ⟨h1, h2, h3⟩ | ⟨h1, a, h2, h3, h4⟩ | ⟨h1, h2, h3⟩
        · have hd1 : decide (H.l.length < H'.l.length) = true := by simp; omega
          have hd2 : (H.l.length : Int) < (H'.l.length : Int) := by omega
          have hHI : H'.l.length = I.length + 1 := by have := HLI.out; omega
          have HHI := Lib.hid hHI
          have eI1 : I1 = I ++ [[]] := by rw [HI1.out, if_pos (by omega)]
          have EI1 := Lib.hid eI1
          clear h1 h2 h3 hHI eI1
          go_wp2_with (first
            | (at_builtin
               refine wpList_app rfl (.tmp 53) (.tmp 54) 32 rfl 38 iI _ 1 24 Try.underlying32 ii iz0 iz1 iz2 rfl (by decide) (.slice Ai I.length ci) I.length vs rfl (HC4.out.2.2.1.row.alloc _) _ 1 1 [.slice none 0 0] rfl rfl (by simp) (cells_newA _ _ _ _ (by simp)) (by simp [Value.oneCell']) (by unfold maxLen; omega) (by omega) ?_
               intro A5 c5 wx hrow5 hu5 hv5 hz5
               have hal := (ext_refl w4).alloc (Nat.le_refl _) (.cells #[.slice none 0 0] 38)
               have hin4 := HC4.out.2.2.1.ext hal
               have hh4 : HH _ q p _ H' _ := ⟨S4, _, _, vt4, HC4.out.1.ext hal, HC4.out.2.1.ext hal, HF4.out⟩
               have hne : ∀ k, F4 k → ¬ (Value.slice Ai I.length ci).ownBlock = some k := fun k hk e => hin4.not hh4 (.inl e) hk
               have hp5 := hin4.push (Nat.le_trans HC4.out.2.2.2.1.size hal.size) hrow5 hu5 hv5
               have hc5 := (HC4.out.1.ext hal).keep hu5 (fun k hk => hne k (by rw [HF4.out]; exact .inr hk))
               have hs5 := (HC4.out.2.1.ext hal).keep hu5 (fun k hk => hne k (by rw [HF4.out]; exact .inl hk))
               have hcar5 := (HC4.out.2.2.2.step (Step.ext hal)).side hu5 (fun k e => hin4.lo.1 k e)
               have HX5 := Lib.hid (And.intro hp5 (And.intro hc5 (And.intro hs5 hcar5)))
               clear hrow5 hu5 hv5 hz5 hal hin4 hh4 hne hp5 hc5 hs5 hcar5))
          go_meet
          case rel => exact ⟨_, by rw [EI1.out]; exact HX5.out.1, HX5.out.2.1, HX5.out.2.2.1, HX5.out.2.2.2⟩
        · have hd1 : decide (H.l.length < H'.l.length) = false := by rw [h1]; simp
          have hd2 : ¬ ((H.l.length : Int) < (H'.l.length : Int)) := by rw [h1]; simp
          have eI1 : I1 = I := by rw [HI1.out, if_neg (by rw [h1]; simp)]
          have EI1 := Lib.hid eI1
          clear h1 h2 h3 h4 eI1
          go_wp2
          go_meet
          case rel => exact ⟨vs, by rw [EI1.out]; exact HC4.out.2.2.1, HC4.out.1, HC4.out.2.1, HC4.out.2.2.2⟩
        · have hd1 : decide (H.l.length < H'.l.length) = false := by simp; omega
          have hd2 : ¬ ((H.l.length : Int) < (H'.l.length : Int)) := by omega
          have eI1 : I1 = I := by rw [HI1.out, if_neg (by omega)]
          have EI1 := Lib.hid eI1
          clear h1 h2 h3 eI1
          go_wp2
          go_meet
          case rel => exact ⟨vs, by rw [EI1.out]; exact HC4.out.2.2.1, HC4.out.1, HC4.out.2.1, HC4.out.2.2.2⟩
      case rest =>
        obtain ⟨vs1, hin1, hc1, hs1, hcar1⟩ := hcut
        have hle : H'.l.length ≤ I1.length := by
          rw [HI1.out]
          have := HLI.out
          rcases HCS.out with ⟨h1, h2, h3⟩ | ⟨h1, a, h2, h3, h4⟩ | ⟨h1, h2, h3⟩
          · rw [if_pos (by omega)]; simp; omega
          · rw [if_neg (by rw [h1]; simp), h1]; omega
          · rw [if_neg (by omega)]; omega
        have hI1l : I1.length ≤ 2000 := by
          rw [HI1.out]
          split
          · simp; omega
          · omega
        obtain ⟨Ax, cx, rfl⟩ := ownsRow_form hin1.row
        have z1 := hc1.c1
        have z2 := hc1.c2
        have zl := hc1.blk.lt
        have H1 := Lib.hid (And.intro hin1 (And.intro hc1 (And.intro hs1 hcar1)))
        clear hin1 hc1 hs1 hcar1 HC4
        generalize wc = w5 at *
        go_upto_region 15 with (fail)
        go_cut [4] from 28 to 105 (fun iv wx => ∃ A5 c5 vs5, iv = .slice A5 H'.l.length c5 ∧ InC w5 w.heap.size iv vs5 (I1.take H'.l.length) ∧ wx = w5)
        case first =>
          rcases row_some H1.out.1.row with ⟨hA, hn0, _, hc0⟩ | ⟨gi, hA, _, hgi⟩
          · subst hA hc0
            have hl0 : H'.l.length = 0 := by omega
            have HL0 := Lib.hid (And.intro hl0 hn0)
            rw [hn0]
            rw [hl0] at z1
            clear hl0 hn0 hle
            go_wp2
            go_meet
            case rel =>
              refine ⟨none, 0, [], by rw [HL0.out.1], ?_, rfl⟩
              have e1 : I1.take H'.l.length = [] := by rw [HL0.out.1]; rfl
              rw [e1]
              exact InC.nil _ _
          · subst hA
            have hcut : H'.l.length ≤ cx := by omega
            go_wp2
            go_meet
            case rel => exact ⟨_, _, _, rfl, H1.out.1.cut rfl H'.l.length hle, rfl⟩
        case rest =>
          obtain ⟨A5, c5, vs5, rfl, hin5, rfl⟩ := hcut
          have H5 := Lib.hid hin5
          clear hin5
          generalize wc = w5 at *
          go_upto_if 69 with (fail)
          go_cut [4] from 28 to 105 (fun iv wx => iv = .slice A5 H'.l.length c5 ∧ ∃ F5 vs6, HH wx q p F5 H' (frsOf H' I') ∧ InC wx w.heap.size iv vs6 I' ∧ Car w F5 wx)
          case first =>
            rcases HCS.out with ⟨h1, h2, h3⟩ | ⟨h1, a, h2, h3, h4⟩ | ⟨h1, h2, h3⟩
            · have hd3 : decide (H.reads.length < H'.reads.length) = false := by simp; omega
              have hd4 : ¬ ((H.reads.length : Int) < (H'.reads.length : Int)) := by omega
              have eI2 : I1.take H'.l.length = I' := by
                rw [HI1.out, if_pos (by omega), h3]
                exact List.take_of_length_le (by have := HLI.out; simp; omega)
              have EI2 := Lib.hid eI2
              clear h1 h2 h3 eI2
              go_wp2
              go_meet
              case rel => exact ⟨rfl, F4, vs5, ⟨S4, _, _, vt4, H1.out.2.1, H1.out.2.2.1, HF4.out⟩, by rw [← EI2.out]; exact H5.out, H1.out.2.2.2⟩
            · have hd3 : decide (H.reads.length < H'.reads.length) = true := by rw [h3]; simp
              have hlr : (H.reads.length : Int) < (H'.reads.length : Int) := by rw [h3]; simp; omega
              have hrg : ∀ (hlt : H.reads.length < H'.reads.length), H'.reads[H.reads.length].at_ = (a : Int) := by rw [h3]; intro _; simp
              have ha64 : a ≤ 1000 := by omega
              have hlH : H'.l.length = H.l.length := by rw [h1]
              have HE := Lib.hid (And.intro h1 (And.intro h2 (And.intro h3 h4)))
              have hrr : H.reads.length < H'.reads.length := by omega
              have eI2 : I1.take H'.l.length = I := by
                rw [HI1.out, if_neg (by rw [h1]; simp)]
                exact List.take_of_length_le (by have := HLI.out; omega)
              have hin0 := H5.out
              rw [eI2] at hin0
              have HRG := Lib.hid (And.intro hrg hlH)
              rcases row_some hin0.row with ⟨hA, hn0, -, hc0⟩ | ⟨gi, hA, -, hgi⟩
              · have := HLI.out; omega
              subst hA
              obtain ⟨R5, r5, e5, _, _, _, hrc⟩ := H1.out.2.1.rform
              injection e5 with e51 _ e52
              subst e51 e52
              obtain ⟨gr, rfl, hgr, hrcell⟩ := hrc (Nat.lt_of_le_of_lt (Nat.zero_le _) hrr)
              have z3 := (hrcell _ hrr).2
              rw [HRG.out.1 hrr] at z3
              have haI : a < I.length := by have := HE.out.2.1; have := HLI.out; omega
              have hga : I.getD a [] = I[a] := by simp [List.getD, haI]
              have hIa : I[a].length ≤ 10000 := by
                have h1 := (HTMI.out.inv _ (List.getElem_mem haI)).1
                have h2 : k * k ≤ 100 * 100 := Nat.mul_le_mul (by omega) (by omega)
                omega
              have HGA := Lib.hid (And.intro hga (And.intro haI hIa))
              have haH : a + 1 ≤ H'.l.length := by have := HE.out.2.1; have := HRG.out.2; omega
              have hHle : H'.l.length ≤ 1000 := by have := HRG.out.2; omega
              have HIN0 := Lib.hid hin0
              clear hrcell hrc h1 h2 h3 h4 hrg hlH hin0 eI2 hga
              go_wp2
              clear z1 z2 z3
              go_loopw [9] (fun i wr => ∃ i' : Nat, a + 1 ≤ i' ∧ i' ≤ H'.l.length ∧ i = .int .i64 i' ∧ ∃ F vs', HH wr q p F H' (frsOf H' I') ∧ InC wr w.heap.size (.slice (some ⟨gi, 0, none⟩) H'.l.length c5) vs' (I.set a (I.getD a [] ++ ((H'.l.map St.rule).drop (a + 1)).take (i' - (a + 1)))) ∧ Car w F wr) (fun i _ => H'.l.length - (intOf i).toNat)
              case atStart =>
                refine ⟨a + 1, Nat.le_refl _, haH, by go_num, F4, vs5, ⟨S4, _, _, vt4, H1.out.2.1, H1.out.2.2.1, HF4.out⟩, ?_, H1.out.2.2.2⟩
                have e : I.set a (I.getD a [] ++ ((H'.l.map St.rule).drop (a + 1)).take (a + 1 - (a + 1))) = I := by
                  rw [Nat.sub_self, List.take_zero, List.append_nil, HGA.out.1]
                  exact List.set_getElem_self _
                rw [e]
                exact HIN0.out
              case round =>
                obtain ⟨i, hai, hi, rfl, F5, vs5, hh5, hin5, hcar5⟩ := hrel
                have HIN5 := Lib.hid (And.intro hin5 (And.intro hh5 hcar5))
                obtain ⟨S6, vl6, vr6, vt6, hc6, hs6, hF6⟩ := hh5
                obtain ⟨Al6, cl6, rfl, hcl6, hml6, _, hcell6⟩ := hc6.lform
                have z1 := hc6.c1
                have zl := hc6.blk.lt
                unfold maxLen at hml6
                by_cases hlti : i < H'.l.length
                · obtain ⟨gl, rfl, hgl, hcl⟩ := hcell6 (by omega)
                  obtain ⟨y0, _, _⟩ := hcl i hlti
                  have haS : a < (I.set a (I.getD a [] ++ ((H'.l.map St.rule).drop (a + 1)).take (i - (a + 1)))).length := by simpa using HGA.out.2.1
                  obtain ⟨u, hu, hown⟩ := hin5.each a haS
                  have hJe : (I.set a (I.getD a [] ++ ((H'.l.map St.rule).drop (a + 1)).take (i - (a + 1))))[a] = I.getD a [] ++ ((H'.l.map St.rule).drop (a + 1)).take (i - (a + 1)) := by simp
                  obtain ⟨gin, hgin0, hgin, hn5, hgc, hgm, hcin⟩ := row_cell hin5.row hu
                  have hgin0 : gin = gi := by injection hgin0 with h; injection h with h; exact h.symm
                  subst hgin0
                  have hfz : wr.frozen? ⟨gin, a, none⟩ = false := by
                    obtain ⟨cs, hb⟩ := own_blk hin5.row (k := gin) rfl
                    exact hb.frozen a
                  have HADD := Lib.hid (fun (w1 : World) (u' : Value) (x : Int) => (hin5.ext (((ext_refl wr).alloc (Nat.le_refl _) (.cells #[.int .i64 H'.l[i].rule] 3)).drew)).add (w1 := w1) (u' := u') (x := x) (Nat.le_trans hcar5.1.size (((ext_refl wr).alloc (Nat.le_refl _) (.cells #[.int .i64 H'.l[i].rule] 3)).drew).size) haS hu)
                  rw [hJe] at hown HADD
                  have hJl : (I.getD a [] ++ ((H'.l.map St.rule).drop (a + 1)).take (i - (a + 1))).length ≤ 20000 := by
                    have h1 : (((H'.l.map St.rule).drop (a + 1)).take (i - (a + 1))).length ≤ H'.l.length := by simp; omega
                    have h2 := HGA.out.2.2
                    rw [List.length_append, HGA.out.1]
                    omega
                  have hJnext : I.getD a [] ++ ((H'.l.map St.rule).drop (a + 1)).take (i + 1 - (a + 1)) = (I.getD a [] ++ ((H'.l.map St.rule).drop (a + 1)).take (i - (a + 1))) ++ [H'.l[i].rule] := by
                    have e1 : i + 1 - (a + 1) = (i - (a + 1)) + 1 := by omega
                    have e2 : i - (a + 1) < ((H'.l.map St.rule).drop (a + 1)).length := by simp; omega
                    rw [e1, List.take_succ_eq_append_getElem e2, ← List.append_assoc]
                    congr 2
                    simp [show a + 1 + (i - (a + 1)) = i by omega]
                  have HJN := Lib.hid hJnext
                  obtain ⟨Au, cu, rfl⟩ := ownsRow_form hown
                  have HOWN := Lib.hid hown
                  have hli : (i : Int) < (H'.l.length : Int) := by omega
                  have hal : (a : Int) < (H'.l.length : Int) := by omega
                  have hNE := Lib.hid (fun (k : Nat) (hk : F5 k) (e : InFoot (.slice (some ⟨gin, 0, none⟩) H'.l.length c5) vs5 k) => hin5.not HIN5.out.2.1 e hk)
                  have hum := Lib.hid (List.mem_of_getElem? hu)
                  clear hcl hcell6 hJnext hown hin5 hcar5 hs6 hF6 hc6 hn5 hgc hgm haS hJe hu
                  generalize hJ : I.getD a [] ++ ((H'.l.map St.rule).drop (a + 1)).take (i - (a + 1)) = J at *
                  have HJ := Lib.hid hJ
                  clear hJ
                  generalize H'.l[i].rule = rr at *
                  go_wp2
                  go_region_law (refine step_app rfl (.tmp 94) (.tmp 103) 38 rfl 3 iN _ 1 8 Try.underlying38 ni nz0 nz1 nz2 rfl (by decide) (.slice Au J.length cu) J.length _ rfl ((HOWN.out.alloc _).drew) _ 1 1 [.int .i64 rr] rfl rfl (by simp) (cells_newA _ _ _ _ (by simp)) (by simp [Value.oneCell']) (by unfold maxLen; omega) (by omega) ?_
                                 intro A9 c9 w9 hrow9 hu9 hv9 hz9
                                 have hadd := HADD.out w9 _ rr hrow9 hu9 hv9
                                 have HU := Lib.hid hadd
                                 have hgu : ¬ ((Value.slice Au J.length cu).ownBlock = some gin) := fun e => by
                                   obtain ⟨cs, hb1⟩ := own_blk HOWN.out e
                                   obtain ⟨cs', hb2⟩ := own_blk HIN5.out.1.row (k := gin) rfl
                                   exact Blk.ne_ hb1 hb2 (by decide) rfl
                                 have hWb := ((ext_refl wr).alloc (Nat.le_refl _) (.cells #[.int .i64 rr] 3)).drew
                                 have d1 : w9.cell? ⟨gin, a, none⟩ = some (.slice Au J.length cu) := ((hu9.cell (p := ⟨gin, a, none⟩) (Nat.lt_of_lt_of_le hgin hWb.size) hgu).trans (hWb.cell (p := ⟨gin, a, none⟩) hgin)).trans hcin
                                 have df : w9.frozen? ⟨gin, a, none⟩ = false := ((hu9.frozen (p := ⟨gin, a, none⟩) (Nat.lt_of_lt_of_le hgin hWb.size) hgu).trans (World.frozen?_of_block (hWb.block _ hgin))).trans hfz
                                 have dl : gin < w9.heap.size := Nat.lt_of_lt_of_le hgin (Nat.le_trans hWb.size hu9.size)
                                 clear hrow9 hu9 hv9 hz9 hadd hgu hWb)
                  all_goals
                    go_wp2
                    go_roundw
                    case rel =>
                      obtain ⟨r1, r2⟩ := HU.out
                      have hWb := ((ext_refl wr).alloc (Nat.le_refl _) (.cells #[.int .i64 rr] 3)).drew
                      have hne : ∀ k, F5 k → ¬ (k = gin ∨ (Value.slice Au J.length cu).ownBlock = some k) := fun k hk e => hNE.out k hk (by
                        rcases e with rfl | e
                        · exact .inl rfl
                        · exact .inr ⟨_, hum.out, e⟩)
                      have e : (I.set a J).set a (J ++ [rr]) = I.set a (J ++ [rr]) := by simp
                      rw [e, ← HJN.out] at r1
                      refine ⟨i + 1, by omega, by omega, by go_num, F5, _, (HIN5.out.2.1.ext hWb).keepU r2 hne, r1, (HIN5.out.2.2.step (Step.ext hWb)).side r2 (fun k e => ?_)⟩
                      rcases e with rfl | e
                      · exact HIN5.out.1.lo.1 _ rfl
                      · exact HIN5.out.1.lo.2 _ hum.out k e
                    case measure => simp [intOf]; omega
                · obtain rfl : i = H'.l.length := by omega
                  have eI : I.set a (I.getD a [] ++ ((H'.l.map St.rule).drop (a + 1)).take (H'.l.length - (a + 1))) = I' := by
                    rw [HE.out.2.2.2]
                    unfold readI
                    rw [HE.out.1, List.take_of_length_le (by simp)]
                  rw [eI] at HIN5
                  clear hcell6 hin5 hcar5 hs6 hF6 hc6 eI
                  go_wp2
                  go_meet
                  case rel => exact ⟨rfl, F5, vs5, HIN5.out.2.1, HIN5.out.1, HIN5.out.2.2⟩
            · have hd3 : decide (H.reads.length < H'.reads.length) = false := by simp; omega
              have hd4 : ¬ ((H.reads.length : Int) < (H'.reads.length : Int)) := by omega
              have eI2 : I1.take H'.l.length = I' := by
                rw [HI1.out, if_neg (by omega), h3]
              have EI2 := Lib.hid eI2
              clear h1 h2 h3 eI2
              go_wp2
              go_meet
              case rel => exact ⟨rfl, F4, vs5, ⟨S4, _, _, vt4, H1.out.2.1, H1.out.2.2.1, HF4.out⟩, by rw [← EI2.out]; exact H5.out, H1.out.2.2.2⟩
          case rest =>
            obtain ⟨rfl, F5, vs6, hh6, hin6, hcar6⟩ := hcut
            have HH5 : Hid (HH wc q p F5 H' (frsOf H' I') ∧ InC wc w.heap.size (.slice A5 H'.l.length c5) vs6 I' ∧ Car w F5 wc) := Lib.hid ⟨hh6, hin6, hcar6⟩
            clear hh6 hin6 hcar6 H1 H5 z1 z2 zl
            generalize wc = wx at *
            go_wp2
            go_loopw [10] (fun i wr => ∃ i' : Nat, i' ≤ H'.l.length ∧ i = .int .i64 i' ∧ Below wx.heap.size wx wr) (fun i _ => H'.l.length - (intOf i).toNat)
            case atStart => exact ⟨0, Nat.zero_le _, rfl, ext_refl _⟩
            case round =>
              obtain ⟨i, hi, rfl, hbx⟩ := hrel
              have HBX := Lib.hid hbx
              obtain ⟨S6, vl6, vr6, vt6, hc6, hs6, hF6⟩ := HH5.out.1.ext hbx
              obtain ⟨Al6, cl6, rfl, hcl6, hml6, _, hcell6⟩ := hc6.lform
              have z0 := hc6.c0
              have z1 := hc6.c1
              have zl := hc6.blk.lt
              unfold maxLen at hml6
              by_cases hlti : i < H'.l.length
              · obtain ⟨gl, rfl, hgl, hcl⟩ := hcell6 (by omega)
                obtain ⟨y0, y1, _⟩ := hcl i hlti
                have hii : i < I'.length := by rw [HTM.out.li]; exact hlti
                obtain ⟨ui, hui, hown⟩ := HH5.out.2.1.each i hii
                obtain ⟨gin, rfl, hgin, hn5, hgc, hgm, hcin⟩ := row_cell HH5.out.2.1.row hui
                obtain ⟨Au, cu, rfl⟩ := ownsRow_form hown
                have HU := Lib.hid (show Ints wx (.slice Au I'[i].length cu) I'[i] from Reads.of_own hown)
                have hgI : I'.getD i [] = I'[i] := by simp [List.getD, hii]
                have HI1 := Lib.hid (fun W (hb : Below wr.heap.size wr W) => involved_frs HTM.out i hlti ▸ involved_uni S6 (frsOf H' I') H'.l[i].rule H'.l[i].place p W (hs6.ext hb) (fine_frs HTM.out (by omega)))
                rw [hgI] at HI1
                have hmem : ∀ y, y ∈ insAll I'[i] [] ↔ y ∈ I'[i] := fun y => by rw [mem_insAll]; simp
                have hris : Rising (insAll I'[i] []) := rising_insAll List.Pairwise.nil
                have hlen1 : I'[i].length ≤ 1000000 := by
                  have h1 := (HTM.out.inv _ (List.getElem_mem hii)).1
                  have h2 : (k + 1) * (k + 1) ≤ 200 * 200 := Nat.mul_le_mul (by omega) (by omega)
                  omega
                have hlen2 : (insAll I'[i] []).length ≤ 1000000 := by have := length_insAll I'[i] []; simp at this; omega
                have HMR := Lib.hid (And.intro hmem hris)
                have hli : (i : Int) < (H'.l.length : Int) := by omega
                have cin : wr.cell? ⟨gin, i, none⟩ = some (.slice Au I'[i].length cu) := (hbx.cell (p := ⟨gin, i, none⟩) hgin).trans hcin
                have hginr : gin < wr.heap.size := Nat.lt_of_lt_of_le hgin hbx.size
                clear hcl hcell6 hui hown hgI hmem hris hs6 hF6 hc6 hcin hn5
                generalize insAll I'[i] [] = L at *
                generalize hIi : I'[i] = Ii at *
                clear hIi
                generalize H'.l[i].rule = rr at *
                generalize H'.l[i].place = pp at *
                go_wp2
                go_region_held3 (fun w' => w'.cell? ⟨q, 0, none⟩ = some (.pointer (some ⟨p, 0, none⟩)) ∧ w'.cell? ⟨q, 1, none⟩ = some (.slice (some ⟨gl, 0, none⟩) H'.l.length cl6) ∧ w'.cell? ⟨gl, i * 3, none⟩ = some (.int .i64 rr) ∧ w'.cell? ⟨gl, i * 3 + 1, none⟩ = some (.int .i64 pp)) (go_keep)
                  (first | (go_at_call 11; refine (HI1.out _ ?_).mono ?_; exact (ext_refl wr).drew; rintro e w6 ⟨uu, rfl, ⟨Ag, cg, rfl⟩, hrow, hb6⟩
                            have hb6' := Lib.hid (ext_trans (ext_refl wr).drew hb6)
                            have HG := Lib.hid (show Ints w6 (.slice Ag L.length cg) L from Reads.of_own hrow)
                            have z0 := (hb6'.out.cell (p := ⟨q, 0, none⟩) zl).trans z0
                            have z1 := (hb6'.out.cell (p := ⟨q, 1, none⟩) zl).trans z1
                            have y0 := (hb6'.out.cell (p := ⟨gl, i * 3, none⟩) hgl).trans y0
                            have y1 := (hb6'.out.cell (p := ⟨gl, i * 3 + 1, none⟩) hgl).trans y1
                            have cin := (hb6'.out.cell (p := ⟨gin, i, none⟩) hginr).trans cin
                            clear hrow hb6))
                have HU6 := Lib.hid (HU.out.of_cells (fun a x ha => ((ext_trans HBX.out hb6'.out).cell (World.block_lt_of_cell? wx a ha)).trans ha))
                have hUf := HU6.out.form
                obtain ⟨Au', cu', e, hcu, hmu, _, hcellu⟩ := hUf
                injection e with e e5 e6
                clear e5
                subst e e6
                obtain ⟨Ag', cg', e, hcg, hmg, _, hcellg⟩ := HG.out.form
                injection e with e e5 e6
                clear e5
                subst e e6
                unfold maxLen at hmu hmg hgm
                have CIN := Lib.hid cin
                clear z0 z1 y0 y1 cin HI1
                go_wp2
                go_loopw [12] (fun j wr => ∃ j' : Nat, j' ≤ L.length ∧ j = .int .i64 j' ∧ ∃ m, wr = w6.drewN m) (fun j _ => L.length - (intOf j).toNat)
                case atStart => exact ⟨0, Nat.zero_le _, rfl, 0, rfl⟩
                case round =>
                  obtain ⟨j, hj, rfl, m, hm⟩ := hrel
                  have HM := Lib.hid hm
                  by_cases hltj : j < L.length
                  · obtain ⟨bg, og, rfl, hcg1⟩ := hcellg (by omega)
                    have hD : ∀ j (hj : j < L.length), L.getD j 0 = L[j] := fun j hj => by simp [List.getD, hj]
                    have c0 := hcg1 j hltj
                    rw [hD j hltj] at c0
                    have cj : wr.cell? ⟨bg, og + j, none⟩ = some (.int .i64 L[j]) := by rw [hm]; exact c0
                    have ci : wr.cell? ⟨gin, i, none⟩ = some (.slice Au Ii.length cu) := by rw [hm]; exact CIN.out
                    have hco : Ii.contains L[j] = true := by simpa using (HMR.out.1 L[j]).1 (List.getElem_mem hltj)
                    have HAS := Lib.hid (fun n => hco ▸ calls_flip (has_any Ii (.slice Au Ii.length cu) L[j] (wr.drewN n) (HU6.out.of_cells (fun a x ha => by rw [hm]; exact ha))))
                    have hlj : (j : Int) < (L.length : Int) := by omega
                    rcases j with _ | j1
                    · rw [Nat.add_zero] at cj
                      generalize L[0] = x at *
                      clear hm hcg1 c0 hco hD
                      go_wp2
                      go_quiet ((go_at_call 12; exact Calls.quiet_of_same (HAS.out _)))
                      go_wp2
                      go_roundw
                      case rel => exact ⟨1, by omega, by go_num, _, by rw [HM.out]; exact World.drewN_drewN _ _ _⟩
                      case measure => simp [intOf]; omega
                    · have c1 := hcg1 j1 (by omega)
                      rw [hD j1 (by omega)] at c1
                      have cj1 : wr.cell? ⟨bg, og + j1, none⟩ = some (.int .i64 (L[j1]'(by omega))) := by rw [hm]; exact c1
                      have hjk := rising_lt HMR.out.2 (show j1 < j1 + 1 by omega) hltj
                      have hdk : decide (L[j1 + 1] ≤ L[j1]'(by omega)) = false := by simpa using hjk
                      have hk0 : decide (0 < j1 + 1) = true := by simp
                      have hk1 : (0 : Int) < ((j1 + 1 : Nat) : Int) := by omega
                      have hlj1 : (j1 : Int) < (L.length : Int) := by omega
                      generalize L[j1 + 1] = x at *
                      generalize L[j1]'(by omega) = y at *
                      clear hm hcg1 c0 c1 hco hjk hD
                      go_wp2
                      go_quiet ((go_at_call 12; exact Calls.quiet_of_same (HAS.out _)))
                      go_wp2
                      go_roundw
                      case rel => exact ⟨j1 + 1 + 1, by omega, by go_num, _, by rw [HM.out]; exact World.drewN_drewN _ _ _⟩
                      case measure => simp [intOf]; omega
                  · clear hm
                    go_wp2
                    go_loopw [13] (fun j wr => ∃ j' : Nat, j' ≤ Ii.length ∧ j = .int .i64 j' ∧ ∃ m, wr = w6.drewN m) (fun j _ => Ii.length - (intOf j).toNat)
                    case atStart => exact ⟨0, Nat.zero_le _, rfl, _, HM.out⟩
                    case round =>
                      obtain ⟨j2, hj2, rfl, m2, hm2⟩ := hrel
                      have HM2 := Lib.hid hm2
                      have ci : wr.cell? ⟨gin, i, none⟩ = some (.slice Au Ii.length cu) := by rw [hm2]; exact CIN.out
                      by_cases hltj2 : j2 < Ii.length
                      · obtain ⟨bu, ou, rfl, hcu1⟩ := hcellu (by omega)
                        have c0 := hcu1 j2 hltj2
                        have hD : Ii.getD j2 0 = Ii[j2] := by simp [List.getD, hltj2]
                        rw [hD] at c0
                        have cj : wr.cell? ⟨bu, ou + j2, none⟩ = some (.int .i64 Ii[j2]) := by rw [hm2]; exact c0
                        have hco : L.contains Ii[j2] = true := by simpa using (HMR.out.1 Ii[j2]).2 (List.getElem_mem hltj2)
                        have HAS := Lib.hid (hco ▸ has_any L (.slice Ag L.length cg) Ii[j2] wr (HG.out.of_cells (fun a x ha => by rw [hm2]; exact ha)))
                        have hlj2 : (j2 : Int) < (Ii.length : Int) := by omega
                        generalize Ii[j2] = x at *
                        clear hm2 hcu1 c0 hD hco
                        go_wp2_with (first | (go_at_call 12; refine HAS.out.mono ?_; rintro e w7 ⟨rfl, rfl⟩))
                        go_roundw
                        case rel => exact ⟨j2 + 1, by omega, by go_num, _, HM2.out⟩
                        case measure => simp [intOf]; omega
                      · clear hm2
                        go_wp2
                        go_roundw
                        case rel => exact ⟨i + 1, by omega, by go_num, ext_trans (ext_trans HBX.out hb6'.out) (drew_ext ⟨_, HM2.out⟩)⟩
                        case measure => simp [intOf]; omega
              · clear hs6 hF6 hc6 hcell6
                go_wp2
                go_roundw
                case rel => exact ⟨k + 1, by omega, by go_num, F5, H', I', vs6, HH5.out.2.1.ext HBX.out, HH5.out.1.ext HBX.out, HTM.out, HH5.out.2.2.step (Step.ext HBX.out)⟩
                case measure => simp [intOf]; omega
    · go_wp2
      go_ret
      exact ⟨rfl, hcar.1⟩
end Go.Proofs.Ytjmidomcgaijjaa
