/- Twigs: lent, kept, written over. -/
import Derived.Test.YtchmlhceidociaaTwigO
import Derived.Test.YtchmlhceidociaaSdB
import Derived.Laws.AppendOwnNone
import Derived.Laws.MakeOwn
import Derived.Test.YtchmlhceidociaaHeld
namespace Go.Proofs.Ytchmlhceidociaa
set_option linter.unusedVariables false
set_option linter.unusedSimpArgs false
open Go.RowKit

/-- the marks behind a list of twigs that is lent -/
def marksT (k : Int) : List Twg := (List.range 12).map fun i => markTw k (i : Nat)
/-- v is the list ts, lent: a row of its own, with the marks in its spare room -/
def LentT (w : World) (v : Value) (g : Nat) (ts : List Twg) : Prop := v = .slice (some ⟨g, 0, none⟩) ts.length (ts.length + 12) ∧ Blk w g 61 ((ts ++ marksT 1).flatMap Twg.cells).toArray
theorem LentT.twgs {w : World} {v : Value} {g : Nat} {ts : List Twg} (h : LentT w v g ts) (hl : ts.length ≤ 1000000) : Twgs w v ts := by
  obtain ⟨rfl, hb⟩ := h
  refine ⟨_, _, rfl, by omega, by unfold maxLen; omega, by simp, twgs_len ts, fun _ => ⟨_, rfl, fun j u hu => ?_⟩⟩
  rw [show (⟨g, 0, none⟩ : Addr).add j = ⟨g, j, none⟩ by rw [Addr.add_lit]; simp, hb.cell]
  have hj : j < (ts.flatMap Twg.cells).length := (List.getElem?_eq_some_iff.1 hu).1
  rw [List.getElem?_toArray, List.flatMap_append, List.getElem?_append_left hj]
  exact hu
theorem LentT.ext {w w' : World} {v : Value} {g : Nat} {ts : List Twg} (h : LentT w v g ts) (hb : Below w.heap.size w w') : LentT w' v g ts := ⟨h.1, h.2.ext hb⟩
theorem LentT.keep {w w' : World} {v : Value} {g : Nat} {ts : List Twg} {S : Nat → Prop} (h : LentT w v g ts) (hu : Upd S w w') (hn : ¬ S g) : LentT w' v g ts := ⟨h.1, h.2.keep hu hn⟩
theorem marksT_take (k : Nat) (hk : k < 12) (m : Int) : (marksT m).take (k + 1) = (marksT m).take k ++ [markTw m k] := by
  rw [List.take_succ_eq_append_getElem (by simpa [marksT] using hk)]
  simp [marksT]

set_option maxRecDepth 100000 in
set_option maxHeartbeats 800000 in
theorem lentTwigs_any (ts : List Twg) (v : Value) (w : World) (hl : Twgs w v ts) (hn : ts.length ≤ 1000000) :
    Calls Try.prog 8 #[v] w fun e w' => ∃ u, e = .returned u ∧ LentT w' u w.heap.size ts ∧ Below w.heap.size w w' := by
  obtain ⟨A, c, rfl, hc, hm, hnc, hcl0, hcells⟩ := hl
  unfold maxLen at hm
  obtain ⟨i0, hi, hz0, hz1, hz2⟩ := info_parts (P := Try.prog) (e := 61) (z := .agg #[.int .i64 0, .int .i64 0, .int .i64 0, .int .i64 0, .int .i64 0]) (size := 5) (bytes := 40) (by kernel_rfl)
  have hcl : ∀ ad, A = some ad → ∀ j u, (ts.flatMap Twg.cells)[j]? = some u → w.cell? (ad.add j) = some u := by
    rintro ad rfl j u hu
    have hpos : 0 < ts.length := by
      rcases Nat.eq_zero_or_pos ts.length with h | h
      · have := List.eq_nil_of_length_eq_zero h
        subst this
        simp at hu
      · exact h
    obtain ⟨ad', e, hc⟩ := hcells hpos
    cases e
    exact hc j u hu
  have hnone : A = none → ts.length = 0 ∧ c = 0 := by
    intro h
    have := hnc h
    exact ⟨by omega, this⟩
  go_enter Try.func8, Try.ntmps8
  have hlen : ((ts.length : Int) + 12) = ((ts.length + 12 : Nat) : Int) := by omega
  have HLEN := Lib.hid hlen
  clear hlen
  have HCL := Lib.hid hcl
  have HNO := Lib.hid hnone
  have HTL := Lib.hid (twgs_len ts)
  clear hcl hnone hcells hnc hcl0
  go_wp2_with (first
    | (at_make; (refine wpList_make_own _ rfl _ _ 31 rfl w.heap.size 61 i0 (.agg #[.int .i64 0, .int .i64 0, .int .i64 0, .int .i64 0, .int .i64 0]) 5 Try.underlying31 hi hz0 hz1 _ _ _ (ts.length + 12) rfl rfl HLEN.out (by rw [hz2]; omega) (by unfold maxLen; omega) (Nat.le_refl _) ?_); intro w1 hown hgrow)
    | (at_builtin; (refine wpList_append_fits_any _ rfl _ _ 31 rfl w.heap.size 61 i0 5 Try.underlying31 hi hz1 w.heap.size 0 (ts.length + 12) [] rfl hown A ts.length c (ts.flatMap Twg.cells) rfl HTL.out HNO.out (fun ad had j u hu => (World.cell?_of_block (hgrow.block _ (World.block_lt_of_cell? w _ (HCL.out ad had j u hu)) (by simp))).trans (HCL.out ad had j u hu)) (twg_oneCell ts) (by omega) ?_); intro w2 hown2 hgrow2))
  simp only [Nat.zero_add, List.nil_append] at hown2
  have hB2 : Below w.heap.size w w2 := ((Below.refl _ _).grown hgrow (Nat.le_refl _) (by simp)).grown hgrow2 hgrow.size (by simp)
  clear hgrow hgrow2 hown HCL HNO
  go_loopw [3, 4] (fun v i wr => ∃ k : Nat, k ≤ 12 ∧ i = .int .i64 k ∧ v = .slice (some ⟨w.heap.size, 0, none⟩) (ts.length + k) (ts.length + 12) ∧
      wr.ownsRow w.heap.size 61 5 (.slice (some ⟨w.heap.size, 0, none⟩) (ts.length + k) (ts.length + 12)) (ts.length + k) ((ts ++ (marksT 1).take k).flatMap Twg.cells) ∧ Below w.heap.size w wr)
    (fun _ i _ => 12 - (intOf i).toNat)
  case atStart => exact ⟨0, Nat.zero_le _, rfl, rfl, by simpa using hown2, hB2⟩
  case round =>
    obtain ⟨k, hk, rfl, rfl, hown, hB⟩ := hrel
    by_cases hlt : k < 12
    · have hz : w.heap.size ≤ wr.heap.size := hB.size
      have HMK := Lib.hid (marksT_take k hlt 1)
      have HOW := Lib.hid hown
      clear hown
      go_wp2_with (first
        | (go_at_call 20; refine (markTwig_any 1 _ _ (by omega) (by omega) (by omega) (by omega)).mono ?_; rintro e w' ⟨rfl, hbm⟩
           rw [show (markTw 1 (k : Int)).cells.toArray = #[.int .i64 (markOf 1 k), .int .i64 0, .int .i64 0, .int .i64 0, .int .i64 0] from rfl]
           have HBM := Lib.hid hbm
           have HOW2 := Lib.hid (ownsRow_keep (S := fun _ => False) HOW.out (Upd.of_ext hbm) (fun _ _ h => h))
           clear hbm)
        | (at_builtin; (refine wpList_append_fits _ rfl _ _ 31 rfl w.heap.size 61 i0 5 Try.underlying31 hi hz1 w.heap.size (ts.length + k) (ts.length + 12) _ rfl (HOW2.out.alloc _) ⟨w'.heap.size, 0, none⟩ 1 1 [.int .i64 (markOf 1 k), .int .i64 0, .int .i64 0, .int .i64 0, .int .i64 0] rfl rfl (cells_newA _ _ _ _ rfl _ rfl) (by simp [Value.oneCell']) (by omega) ?_); intro w3 hown3 hgrow3))
      go_roundw
      case rel =>
        have hz' := HBM.out.size
        refine ⟨k + 1, by omega, by go_num, rfl, ?_, ((hB.trans (HBM.out.mono hz)).alloc (by omega) _).grown hgrow3 (by simp; omega) (by simp)⟩
        rw [HMK.out, ← List.append_assoc, List.flatMap_append]
        simpa [Nat.add_assoc, Twg.cells, markTw] using hown3
      case measure => simp [intOf]; omega
    · obtain rfl : k = 12 := by omega
      have hm12 : (marksT 1).take 12 = marksT 1 := rfl
      rw [hm12] at hown
      have hl12 : (ts.length : Int) ≤ ((ts.length + 12 : Nat) : Int) := by omega
      have HOW := Lib.hid hown
      clear hown
      go_wp2
      go_ret
      refine ⟨_, rfl, ⟨rfl, ?_⟩, hB⟩
      rcases HOW.out.2 with ⟨h, _⟩ | ⟨g, cap, cur, hv, _, hg, _, _, hsz, htk⟩
      · cases h
      · cases hv
        rw [Blk, hg]
        congr 2
        rw [List.take_of_length_le (by have := twgs_len (ts ++ marksT 1); simp [marksT] at this; simp [hsz])] at htk
        rw [← htk]

set_option maxRecDepth 100000 in
set_option maxHeartbeats 1600000 in
theorem keptTwigs_any (ts : List Twg) (u v : Value) (g : Nat) (w : World) (hu : LentT w u g ts) (hl : Twgs w v ts) (hn : ts.length ≤ 1000000) :
    Calls Try.prog 16 #[u, v] w fun e w' => e = .returned (.bool true) ∧ Below w.heap.size w w' := by
  obtain ⟨rfl, hb⟩ := hu
  obtain ⟨A, c, rfl, hc, hm, _, hcells⟩ := hl.form
  unfold maxLen at hm
  have hg : ∀ k : Nat, (hk : k < ts.length + 12) → ∀ j, (hj : j < 5) → w.cell? ⟨g, k * 5 + j, none⟩ = ((ts ++ marksT 1)[k]'(by simpa [marksT] using hk)).cells[j]? := by
    intro k hk j hj
    rw [hb.cell, List.getElem?_toArray, twg_at _ k (by simpa [marksT] using hk) j hj]
  have hlen : ((ts.length : Int) + 12) = ((ts.length + 12 : Nat) : Int) := by omega
  have hgl := hb.lt
  have HLEN := Lib.hid hlen
  have HG := Lib.hid hg
  have HCE := Lib.hid hcells
  clear hlen hb hg hl hcells
  go_enter Try.func16, Try.ntmps16
  go_wp2
  go_loopw [6] (fun i wr => ∃ k : Nat, k ≤ ts.length + 12 ∧ i = .int .i64 k ∧ Below w.heap.size w wr) (fun i _ => ts.length + 12 - (intOf i).toNat)
  case atStart => exact ⟨0, Nat.zero_le _, rfl, ext_refl w⟩
  case round =>
    obtain ⟨k, hk, rfl, hW⟩ := hrel
    have HW := Lib.hid hW
    by_cases hlt : k < ts.length + 12
    · have hka : (k : Int) < ((ts.length + 12 : Nat) : Int) := by omega
      obtain ⟨W, rfl⟩ : ∃ W : World, W = wr := ⟨_, rfl⟩
      by_cases hlk : k < ts.length
      · have e1 : (ts ++ marksT 1)[k]'(by simpa [marksT] using hlt) = ts[k] := List.getElem_append_left hlk
        obtain ⟨b, o, rfl, hcell⟩ := HCE.out (by omega)
        obtain ⟨q0, q1, q2, q3, q4⟩ := hcell k hlk
        have p0 := HG.out k hlt 0 (by omega)
        have p1 := HG.out k hlt 1 (by omega)
        have p2 := HG.out k hlt 2 (by omega)
        have p3 := HG.out k hlt 3 (by omega)
        have p4 := HG.out k hlt 4 (by omega)
        rw [e1] at p0 p1 p2 p3 p4
        have hbl := World.block_lt_of_cell? w _ q0
        replace q0 := (hW.cell (p := ⟨b, o + k * 5, none⟩) hbl).trans q0
        replace q1 := (hW.cell (p := ⟨b, o + k * 5 + 1, none⟩) hbl).trans q1
        replace q2 := (hW.cell (p := ⟨b, o + k * 5 + 2, none⟩) hbl).trans q2
        replace q3 := (hW.cell (p := ⟨b, o + k * 5 + 3, none⟩) hbl).trans q3
        replace q4 := (hW.cell (p := ⟨b, o + k * 5 + 4, none⟩) hbl).trans q4
        replace p0 := (hW.cell (p := ⟨g, k * 5 + 0, none⟩) hgl).trans p0
        rw [Nat.add_zero] at p0
        replace p1 := (hW.cell (p := ⟨g, k * 5 + 1, none⟩) hgl).trans p1
        replace p2 := (hW.cell (p := ⟨g, k * 5 + 2, none⟩) hgl).trans p2
        replace p3 := (hW.cell (p := ⟨g, k * 5 + 3, none⟩) hgl).trans p3
        replace p4 := (hW.cell (p := ⟨g, k * 5 + 4, none⟩) hgl).trans p4
        have hki : (k : Int) < (ts.length : Int) := by omega
        have hkd : decide (ts.length ≤ k) = false := by simp; omega
        clear hcell HG HCE e1 hW
        generalize ts[k] = x at *
        unfold Twg.cells at p0 p1 p2 p3 p4
        go_wp2
        go_quiet (fail)
        go_wp2
        go_roundw
        case rel => exact ⟨k + 1, by omega, by go_num, ext_trans HW.out (drew_ext ⟨_, rfl⟩)⟩
        case measure => simp [intOf]; omega
      · have e1 : (ts ++ marksT 1)[k]'(by simpa [marksT] using hlt) = markTw 1 ((k : Int) - ts.length) := by
          rw [List.getElem_append_right (by omega)]
          simp [marksT]
          congr 1; omega
        have p0 := HG.out k hlt 0 (by omega)
        have p1 := HG.out k hlt 1 (by omega)
        have p2 := HG.out k hlt 2 (by omega)
        have p3 := HG.out k hlt 3 (by omega)
        have p4 := HG.out k hlt 4 (by omega)
        rw [e1] at p0 p1 p2 p3 p4
        rw [show (markTw 1 ((k : Int) - ts.length)).cells = [.int .i64 (markOf 1 ((k : Int) - ts.length)), .int .i64 0, .int .i64 0, .int .i64 0, .int .i64 0] from rfl] at p0 p1 p2 p3 p4
        replace p0 := (hW.cell (p := ⟨g, k * 5 + 0, none⟩) hgl).trans p0
        rw [Nat.add_zero] at p0
        replace p1 := (hW.cell (p := ⟨g, k * 5 + 1, none⟩) hgl).trans p1
        replace p2 := (hW.cell (p := ⟨g, k * 5 + 2, none⟩) hgl).trans p2
        replace p3 := (hW.cell (p := ⟨g, k * 5 + 3, none⟩) hgl).trans p3
        replace p4 := (hW.cell (p := ⟨g, k * 5 + 4, none⟩) hgl).trans p4
        have hki : (ts.length : Int) ≤ (k : Int) := by omega
        have hkd : decide (k < ts.length) = false := by simp; omega
        have hks : 0 ≤ (k : Int) - ts.length := by omega
        have hks2 : (k : Int) - ts.length ≤ 1000000 := by omega
        have hwr : IntKind.i64.wrap ((k : Int) - ts.length) = (k : Int) - ts.length := IntWalk.i64_in _ (by omega)
        have hgW := Nat.lt_of_lt_of_le hgl hW.size
        have hwk : (k : Int) < (ts.length : Int) + 12 := by omega
        have C := Lib.hid (fun V => show Calls Try.prog 20 #[.int .i64 1, .int .i64 ((k : Int) - ts.length)] V _ from markTwig_any 1 ((k : Int) - ts.length) V (by omega) (by omega) hks hks2)
        rw [show (markTw 1 ((k : Int) - ts.length)).cells.toArray = #[.int .i64 (markOf 1 ((k : Int) - ts.length)), .int .i64 0, .int .i64 0, .int .i64 0, .int .i64 0] from rfl] at C
        generalize markOf 1 ((k : Int) - ts.length) = x at *
        clear HG HCE e1 hW
        go_wp2
        refine AtE.start (S := fun w' => Below W.heap.size W w') 34 (by kernel_rfl) (by kernel_rfl) (by exact (ext_refl W).drew) (fun hHeld => ?_)
        refine AtE.take (i := 0) (v := ?_) rfl (by kernel_rfl) (by kernel_rfl) (by kernel_rfl) (fun _ _ _ h => h) (by decide) (Or.inl ⟨by rfl, ?_⟩) hHeld ?_
        rotate_left
        · intro wH hSw; have k0 := (hSw.cell (p := ⟨g, k * 5, none⟩) hgW).trans p0; have k1 := (hSw.cell (p := ⟨g, k * 5 + 1, none⟩) hgW).trans p1; have k2 := (hSw.cell (p := ⟨g, k * 5 + 2, none⟩) hgW).trans p2; have k3 := (hSw.cell (p := ⟨g, k * 5 + 3, none⟩) hgW).trans p3; have k4 := (hSw.cell (p := ⟨g, k * 5 + 4, none⟩) hgW).trans p4; go_simp; try (with_reducible rfl)
        simp only [Act.put, List.setIfInBounds_toArray, List.set_cons_zero, List.set_cons_succ]
        refine AtE.take (i := 1) (v := ?_) rfl (by kernel_rfl) (by kernel_rfl) (by kernel_rfl) (fun _ _ _ h => h) (by decide) (Or.inl ⟨by rfl, ?_⟩) hHeld ?_
        rotate_left
        · intro wH hSw; have k0 := (hSw.cell (p := ⟨g, k * 5, none⟩) hgW).trans p0; have k1 := (hSw.cell (p := ⟨g, k * 5 + 1, none⟩) hgW).trans p1; have k2 := (hSw.cell (p := ⟨g, k * 5 + 2, none⟩) hgW).trans p2; have k3 := (hSw.cell (p := ⟨g, k * 5 + 3, none⟩) hgW).trans p3; have k4 := (hSw.cell (p := ⟨g, k * 5 + 4, none⟩) hgW).trans p4; go_simp; try (with_reducible rfl)
        simp only [Act.put, List.setIfInBounds_toArray, List.set_cons_zero, List.set_cons_succ]
        refine AtE.take (i := 2) (v := ?_) rfl (by kernel_rfl) (by kernel_rfl) (by kernel_rfl) (fun _ _ _ h => h) (by decide) (Or.inl ⟨by rfl, ?_⟩) hHeld ?_
        rotate_left
        · intro wH hSw; have k0 := (hSw.cell (p := ⟨g, k * 5, none⟩) hgW).trans p0; have k1 := (hSw.cell (p := ⟨g, k * 5 + 1, none⟩) hgW).trans p1; have k2 := (hSw.cell (p := ⟨g, k * 5 + 2, none⟩) hgW).trans p2; have k3 := (hSw.cell (p := ⟨g, k * 5 + 3, none⟩) hgW).trans p3; have k4 := (hSw.cell (p := ⟨g, k * 5 + 4, none⟩) hgW).trans p4; go_simp; try (with_reducible rfl)
        simp only [Act.put, List.setIfInBounds_toArray, List.set_cons_zero, List.set_cons_succ]
        refine AtE.take (i := 3) (v := ?_) rfl (by kernel_rfl) (by kernel_rfl) (by kernel_rfl) (fun _ _ _ h => h) (by decide) (Or.inl ⟨by rfl, ?_⟩) hHeld ?_
        rotate_left
        · intro wH hSw; have k0 := (hSw.cell (p := ⟨g, k * 5, none⟩) hgW).trans p0; have k1 := (hSw.cell (p := ⟨g, k * 5 + 1, none⟩) hgW).trans p1; have k2 := (hSw.cell (p := ⟨g, k * 5 + 2, none⟩) hgW).trans p2; have k3 := (hSw.cell (p := ⟨g, k * 5 + 3, none⟩) hgW).trans p3; have k4 := (hSw.cell (p := ⟨g, k * 5 + 4, none⟩) hgW).trans p4; go_simp; try (with_reducible rfl)
        simp only [Act.put, List.setIfInBounds_toArray, List.set_cons_zero, List.set_cons_succ]
        refine AtE.take (i := 4) (v := ?_) rfl (by kernel_rfl) (by kernel_rfl) (by kernel_rfl) (fun _ _ _ h => h) (by decide) (Or.inl ⟨by rfl, ?_⟩) hHeld ?_
        rotate_left
        · intro wH hSw; have k0 := (hSw.cell (p := ⟨g, k * 5, none⟩) hgW).trans p0; have k1 := (hSw.cell (p := ⟨g, k * 5 + 1, none⟩) hgW).trans p1; have k2 := (hSw.cell (p := ⟨g, k * 5 + 2, none⟩) hgW).trans p2; have k3 := (hSw.cell (p := ⟨g, k * 5 + 3, none⟩) hgW).trans p3; have k4 := (hSw.cell (p := ⟨g, k * 5 + 4, none⟩) hgW).trans p4; go_simp; try (with_reducible rfl)
        simp only [Act.put, List.setIfInBounds_toArray, List.set_cons_zero, List.set_cons_succ]
        refine AtE.take (i := 5) (v := undef) rfl (by kernel_rfl) (by kernel_rfl) (by kernel_rfl) (fun _ _ _ h => h) (by decide) (Or.inr ⟨by rfl, rfl⟩) hHeld ?_
        simp only [Act.put, List.setIfInBounds_toArray, List.set_cons_zero, List.set_cons_succ]
        refine AtE.take (i := 6) (v := undef) rfl (by kernel_rfl) (by kernel_rfl) (by kernel_rfl) (fun _ _ _ h => h) (by decide) (Or.inr ⟨by rfl, rfl⟩) hHeld ?_
        simp only [Act.put, List.setIfInBounds_toArray, List.set_cons_zero, List.set_cons_succ]
        refine AtE.take (i := 7) (v := undef) rfl (by kernel_rfl) (by kernel_rfl) (by kernel_rfl) (fun _ _ _ h => h) (by decide) (Or.inr ⟨by rfl, rfl⟩) hHeld ?_
        simp only [Act.put, List.setIfInBounds_toArray, List.set_cons_zero, List.set_cons_succ]
        refine AtE.take (i := 8) (v := undef) rfl (by kernel_rfl) (by kernel_rfl) (by kernel_rfl) (fun _ _ _ h => h) (by decide) (Or.inr ⟨by rfl, rfl⟩) hHeld ?_
        simp only [Act.put, List.setIfInBounds_toArray, List.set_cons_zero, List.set_cons_succ]
        refine AtE.take (i := 9) (v := undef) rfl (by kernel_rfl) (by kernel_rfl) (by kernel_rfl) (fun _ _ _ h => h) (by decide) (Or.inr ⟨by rfl, rfl⟩) hHeld ?_
        simp only [Act.put, List.setIfInBounds_toArray, List.set_cons_zero, List.set_cons_succ]
        refine AtE.take (i := 10) (v := undef) rfl (by kernel_rfl) (by kernel_rfl) (by kernel_rfl) (fun _ _ _ h => h) (by decide) (Or.inr ⟨by rfl, rfl⟩) hHeld ?_
        simp only [Act.put, List.setIfInBounds_toArray, List.set_cons_zero, List.set_cons_succ]
        refine AtE.take (i := 11) (v := undef) rfl (by kernel_rfl) (by kernel_rfl) (by kernel_rfl) (fun _ _ _ h => h) (by decide) (Or.inr ⟨by rfl, rfl⟩) hHeld ?_
        simp only [Act.put, List.setIfInBounds_toArray, List.set_cons_zero, List.set_cons_succ]
        refine AtE.take (i := 12) (v := undef) rfl (by kernel_rfl) (by kernel_rfl) (by kernel_rfl) (fun _ _ _ h => h) (by decide) (Or.inr ⟨by rfl, rfl⟩) hHeld ?_
        simp only [Act.put, List.setIfInBounds_toArray, List.set_cons_zero, List.set_cons_succ]
        refine AtE.take (i := 13) (v := undef) rfl (by kernel_rfl) (by kernel_rfl) (by kernel_rfl) (fun _ _ _ h => h) (by decide) (Or.inr ⟨by rfl, rfl⟩) hHeld ?_
        simp only [Act.put, List.setIfInBounds_toArray, List.set_cons_zero, List.set_cons_succ]
        refine AtE.take (i := 14) (v := undef) rfl (by kernel_rfl) (by kernel_rfl) (by kernel_rfl) (fun _ _ _ h => h) (by decide) (Or.inr ⟨by rfl, rfl⟩) hHeld ?_
        simp only [Act.put, List.setIfInBounds_toArray, List.set_cons_zero, List.set_cons_succ]
        refine AtE.take (i := 15) (v := ?_) rfl (by kernel_rfl) (by kernel_rfl) (by kernel_rfl) (fun _ _ _ h => h) (by decide) (Or.inl ⟨by rfl, ?_⟩) hHeld ?_
        rotate_left
        · intro wH hSw; have k0 := (hSw.cell (p := ⟨g, k * 5, none⟩) hgW).trans p0; have k1 := (hSw.cell (p := ⟨g, k * 5 + 1, none⟩) hgW).trans p1; have k2 := (hSw.cell (p := ⟨g, k * 5 + 2, none⟩) hgW).trans p2; have k3 := (hSw.cell (p := ⟨g, k * 5 + 3, none⟩) hgW).trans p3; have k4 := (hSw.cell (p := ⟨g, k * 5 + 4, none⟩) hgW).trans p4; go_simp; try (with_reducible rfl)
        simp only [Act.put, List.setIfInBounds_toArray, List.set_cons_zero, List.set_cons_succ]
        refine AtE.take (i := 16) (v := ?_) rfl (by kernel_rfl) (by kernel_rfl) (by kernel_rfl) (fun _ _ _ h => h) (by decide) (Or.inl ⟨by rfl, ?_⟩) hHeld ?_
        rotate_left
        · intro wH hSw; have k0 := (hSw.cell (p := ⟨g, k * 5, none⟩) hgW).trans p0; have k1 := (hSw.cell (p := ⟨g, k * 5 + 1, none⟩) hgW).trans p1; have k2 := (hSw.cell (p := ⟨g, k * 5 + 2, none⟩) hgW).trans p2; have k3 := (hSw.cell (p := ⟨g, k * 5 + 3, none⟩) hgW).trans p3; have k4 := (hSw.cell (p := ⟨g, k * 5 + 4, none⟩) hgW).trans p4; go_simp; try (with_reducible rfl)
        simp only [Act.put, List.setIfInBounds_toArray, List.set_cons_zero, List.set_cons_succ]
        refine AtE.take (i := 17) (v := ?_) rfl (by kernel_rfl) (by kernel_rfl) (by kernel_rfl) (fun _ _ _ h => h) (by decide) (Or.inl ⟨by rfl, ?_⟩) hHeld ?_
        rotate_left
        · intro wH hSw; have k0 := (hSw.cell (p := ⟨g, k * 5, none⟩) hgW).trans p0; have k1 := (hSw.cell (p := ⟨g, k * 5 + 1, none⟩) hgW).trans p1; have k2 := (hSw.cell (p := ⟨g, k * 5 + 2, none⟩) hgW).trans p2; have k3 := (hSw.cell (p := ⟨g, k * 5 + 3, none⟩) hgW).trans p3; have k4 := (hSw.cell (p := ⟨g, k * 5 + 4, none⟩) hgW).trans p4; go_simp; try (with_reducible rfl)
        simp only [Act.put, List.setIfInBounds_toArray, List.set_cons_zero, List.set_cons_succ]
        refine AtE.take (i := 18) (v := ?_) rfl (by kernel_rfl) (by kernel_rfl) (by kernel_rfl) (fun _ _ _ h => h) (by decide) (Or.inl ⟨by rfl, ?_⟩) hHeld ?_
        rotate_left
        · intro wH hSw; have k0 := (hSw.cell (p := ⟨g, k * 5, none⟩) hgW).trans p0; have k1 := (hSw.cell (p := ⟨g, k * 5 + 1, none⟩) hgW).trans p1; have k2 := (hSw.cell (p := ⟨g, k * 5 + 2, none⟩) hgW).trans p2; have k3 := (hSw.cell (p := ⟨g, k * 5 + 3, none⟩) hgW).trans p3; have k4 := (hSw.cell (p := ⟨g, k * 5 + 4, none⟩) hgW).trans p4; go_simp; try (with_reducible rfl)
        simp only [Act.put, List.setIfInBounds_toArray, List.set_cons_zero, List.set_cons_succ]
        refine AtE.take (i := 19) (v := ?_) rfl (by kernel_rfl) (by kernel_rfl) (by kernel_rfl) (fun _ _ _ h => h) (by decide) (Or.inl ⟨by rfl, ?_⟩) hHeld ?_
        rotate_left
        · intro wH hSw; have k0 := (hSw.cell (p := ⟨g, k * 5, none⟩) hgW).trans p0; have k1 := (hSw.cell (p := ⟨g, k * 5 + 1, none⟩) hgW).trans p1; have k2 := (hSw.cell (p := ⟨g, k * 5 + 2, none⟩) hgW).trans p2; have k3 := (hSw.cell (p := ⟨g, k * 5 + 3, none⟩) hgW).trans p3; have k4 := (hSw.cell (p := ⟨g, k * 5 + 4, none⟩) hgW).trans p4; go_simp; try (with_reducible rfl)
        simp only [Act.put, List.setIfInBounds_toArray, List.set_cons_zero, List.set_cons_succ]
        refine AtE.take (i := 20) (v := ?_) rfl (by kernel_rfl) (by kernel_rfl) (by kernel_rfl) (fun _ _ _ h => h) (by decide) (Or.inl ⟨by rfl, ?_⟩) hHeld ?_
        rotate_left
        · intro wH hSw; have k0 := (hSw.cell (p := ⟨g, k * 5, none⟩) hgW).trans p0; have k1 := (hSw.cell (p := ⟨g, k * 5 + 1, none⟩) hgW).trans p1; have k2 := (hSw.cell (p := ⟨g, k * 5 + 2, none⟩) hgW).trans p2; have k3 := (hSw.cell (p := ⟨g, k * 5 + 3, none⟩) hgW).trans p3; have k4 := (hSw.cell (p := ⟨g, k * 5 + 4, none⟩) hgW).trans p4; go_simp; try (with_reducible rfl)
        simp only [Act.put, List.setIfInBounds_toArray, List.set_cons_zero, List.set_cons_succ]
        refine AtE.take (i := 21) (v := ?_) rfl (by kernel_rfl) (by kernel_rfl) (by kernel_rfl) (fun _ _ _ h => h) (by decide) (Or.inl ⟨by rfl, ?_⟩) hHeld ?_
        rotate_left
        · intro wH hSw; have k0 := (hSw.cell (p := ⟨g, k * 5, none⟩) hgW).trans p0; have k1 := (hSw.cell (p := ⟨g, k * 5 + 1, none⟩) hgW).trans p1; have k2 := (hSw.cell (p := ⟨g, k * 5 + 2, none⟩) hgW).trans p2; have k3 := (hSw.cell (p := ⟨g, k * 5 + 3, none⟩) hgW).trans p3; have k4 := (hSw.cell (p := ⟨g, k * 5 + 4, none⟩) hgW).trans p4; go_simp; try (with_reducible rfl)
        simp only [Act.put, List.setIfInBounds_toArray, List.set_cons_zero, List.set_cons_succ]
        refine AtE.take (i := 22) (v := ?_) rfl (by kernel_rfl) (by kernel_rfl) (by kernel_rfl) (fun _ _ _ h => h) (by decide) (Or.inl ⟨by rfl, ?_⟩) hHeld ?_
        rotate_left
        · intro wH hSw; have k0 := (hSw.cell (p := ⟨g, k * 5, none⟩) hgW).trans p0; have k1 := (hSw.cell (p := ⟨g, k * 5 + 1, none⟩) hgW).trans p1; have k2 := (hSw.cell (p := ⟨g, k * 5 + 2, none⟩) hgW).trans p2; have k3 := (hSw.cell (p := ⟨g, k * 5 + 3, none⟩) hgW).trans p3; have k4 := (hSw.cell (p := ⟨g, k * 5 + 4, none⟩) hgW).trans p4; go_simp; try (with_reducible rfl)
        simp only [Act.put, List.setIfInBounds_toArray, List.set_cons_zero, List.set_cons_succ]
        refine AtE.take (i := 23) (v := ?_) rfl (by kernel_rfl) (by kernel_rfl) (by kernel_rfl) (fun _ _ _ h => h) (by decide) (Or.inl ⟨by rfl, ?_⟩) hHeld ?_
        rotate_left
        · intro wH hSw; have k0 := (hSw.cell (p := ⟨g, k * 5, none⟩) hgW).trans p0; have k1 := (hSw.cell (p := ⟨g, k * 5 + 1, none⟩) hgW).trans p1; have k2 := (hSw.cell (p := ⟨g, k * 5 + 2, none⟩) hgW).trans p2; have k3 := (hSw.cell (p := ⟨g, k * 5 + 3, none⟩) hgW).trans p3; have k4 := (hSw.cell (p := ⟨g, k * 5 + 4, none⟩) hgW).trans p4; go_simp; try (with_reducible rfl)
        simp only [Act.put, List.setIfInBounds_toArray, List.set_cons_zero, List.set_cons_succ]
        refine AtE.take (i := 24) (v := ?_) rfl (by kernel_rfl) (by kernel_rfl) (by kernel_rfl) (fun _ _ _ h => h) (by decide) (Or.inl ⟨by rfl, ?_⟩) hHeld ?_
        rotate_left
        · intro wH hSw; have k0 := (hSw.cell (p := ⟨g, k * 5, none⟩) hgW).trans p0; have k1 := (hSw.cell (p := ⟨g, k * 5 + 1, none⟩) hgW).trans p1; have k2 := (hSw.cell (p := ⟨g, k * 5 + 2, none⟩) hgW).trans p2; have k3 := (hSw.cell (p := ⟨g, k * 5 + 3, none⟩) hgW).trans p3; have k4 := (hSw.cell (p := ⟨g, k * 5 + 4, none⟩) hgW).trans p4; go_simp; try (with_reducible rfl)
        simp only [Act.put, List.setIfInBounds_toArray, List.set_cons_zero, List.set_cons_succ]
        refine AtE.take (i := 25) (v := ?_) rfl (by kernel_rfl) (by kernel_rfl) (by kernel_rfl) (fun _ _ _ h => h) (by decide) (Or.inl ⟨by rfl, ?_⟩) hHeld ?_
        rotate_left
        · intro wH hSw; have k0 := (hSw.cell (p := ⟨g, k * 5, none⟩) hgW).trans p0; have k1 := (hSw.cell (p := ⟨g, k * 5 + 1, none⟩) hgW).trans p1; have k2 := (hSw.cell (p := ⟨g, k * 5 + 2, none⟩) hgW).trans p2; have k3 := (hSw.cell (p := ⟨g, k * 5 + 3, none⟩) hgW).trans p3; have k4 := (hSw.cell (p := ⟨g, k * 5 + 4, none⟩) hgW).trans p4; go_simp; try (with_reducible rfl)
        simp only [Act.put, List.setIfInBounds_toArray, List.set_cons_zero, List.set_cons_succ]
        refine AtE.take (i := 26) (v := ?_) rfl (by kernel_rfl) (by kernel_rfl) (by kernel_rfl) (fun _ _ _ h => h) (by decide) (Or.inl ⟨by rfl, ?_⟩) hHeld ?_
        rotate_left
        · intro wH hSw; have k0 := (hSw.cell (p := ⟨g, k * 5, none⟩) hgW).trans p0; have k1 := (hSw.cell (p := ⟨g, k * 5 + 1, none⟩) hgW).trans p1; have k2 := (hSw.cell (p := ⟨g, k * 5 + 2, none⟩) hgW).trans p2; have k3 := (hSw.cell (p := ⟨g, k * 5 + 3, none⟩) hgW).trans p3; have k4 := (hSw.cell (p := ⟨g, k * 5 + 4, none⟩) hgW).trans p4; go_simp; try (with_reducible rfl)
        simp only [Act.put, List.setIfInBounds_toArray, List.set_cons_zero, List.set_cons_succ]
        refine AtE.take (i := 27) (v := ?_) rfl (by kernel_rfl) (by kernel_rfl) (by kernel_rfl) (fun _ _ _ h => h) (by decide) (Or.inl ⟨by rfl, ?_⟩) hHeld ?_
        rotate_left
        · intro wH hSw; have k0 := (hSw.cell (p := ⟨g, k * 5, none⟩) hgW).trans p0; have k1 := (hSw.cell (p := ⟨g, k * 5 + 1, none⟩) hgW).trans p1; have k2 := (hSw.cell (p := ⟨g, k * 5 + 2, none⟩) hgW).trans p2; have k3 := (hSw.cell (p := ⟨g, k * 5 + 3, none⟩) hgW).trans p3; have k4 := (hSw.cell (p := ⟨g, k * 5 + 4, none⟩) hgW).trans p4; go_simp; try (with_reducible rfl)
        simp only [Act.put, List.setIfInBounds_toArray, List.set_cons_zero, List.set_cons_succ]
        refine AtE.take (i := 28) (v := ?_) rfl (by kernel_rfl) (by kernel_rfl) (by kernel_rfl) (fun _ _ _ h => h) (by decide) (Or.inl ⟨by rfl, ?_⟩) hHeld ?_
        rotate_left
        · intro wH hSw; have k0 := (hSw.cell (p := ⟨g, k * 5, none⟩) hgW).trans p0; have k1 := (hSw.cell (p := ⟨g, k * 5 + 1, none⟩) hgW).trans p1; have k2 := (hSw.cell (p := ⟨g, k * 5 + 2, none⟩) hgW).trans p2; have k3 := (hSw.cell (p := ⟨g, k * 5 + 3, none⟩) hgW).trans p3; have k4 := (hSw.cell (p := ⟨g, k * 5 + 4, none⟩) hgW).trans p4; go_simp; try (with_reducible rfl)
        simp only [Act.put, List.setIfInBounds_toArray, List.set_cons_zero, List.set_cons_succ]
        refine AtE.take (i := 29) (v := ?_) rfl (by kernel_rfl) (by kernel_rfl) (by kernel_rfl) (fun _ _ _ h => h) (by decide) (Or.inl ⟨by rfl, ?_⟩) hHeld ?_
        rotate_left
        · intro wH hSw; have k0 := (hSw.cell (p := ⟨g, k * 5, none⟩) hgW).trans p0; have k1 := (hSw.cell (p := ⟨g, k * 5 + 1, none⟩) hgW).trans p1; have k2 := (hSw.cell (p := ⟨g, k * 5 + 2, none⟩) hgW).trans p2; have k3 := (hSw.cell (p := ⟨g, k * 5 + 3, none⟩) hgW).trans p3; have k4 := (hSw.cell (p := ⟨g, k * 5 + 4, none⟩) hgW).trans p4; go_simp; try (with_reducible rfl)
        simp only [Act.put, List.setIfInBounds_toArray, List.set_cons_zero, List.set_cons_succ]
        refine AtE.one (i := 30) rfl (by kernel_rfl) (fun K hK => ?_)
        go_simp
        refine (C.out _).mono ?_
        rintro e Z ⟨rfl, hbZ⟩
        refine hK.out _ _ (fun _ => ext_trans hHeld hbZ) (fun hHeld' => ?_)
        clear hHeld hbZ
        have hHeld := hHeld' (by decide)
        clear hK K hHeld'
        refine AtE.take (i := 31) (v := ?_) rfl (by kernel_rfl) (by kernel_rfl) (by kernel_rfl) (fun _ _ _ h => h) (by decide) (Or.inl ⟨by rfl, ?_⟩) hHeld ?_
        rotate_left
        · intro wH hSw; have k0 := (hSw.cell (p := ⟨g, k * 5, none⟩) hgW).trans p0; have k1 := (hSw.cell (p := ⟨g, k * 5 + 1, none⟩) hgW).trans p1; have k2 := (hSw.cell (p := ⟨g, k * 5 + 2, none⟩) hgW).trans p2; have k3 := (hSw.cell (p := ⟨g, k * 5 + 3, none⟩) hgW).trans p3; have k4 := (hSw.cell (p := ⟨g, k * 5 + 4, none⟩) hgW).trans p4; go_simp; try (with_reducible rfl)
        simp only [Act.put, List.setIfInBounds_toArray, List.set_cons_zero, List.set_cons_succ]
        refine AtE.take (i := 32) (v := ?_) rfl (by kernel_rfl) (by kernel_rfl) (by kernel_rfl) (fun _ _ _ h => h) (by decide) (Or.inl ⟨by rfl, ?_⟩) hHeld ?_
        rotate_left
        · intro wH hSw; have k0 := (hSw.cell (p := ⟨g, k * 5, none⟩) hgW).trans p0; have k1 := (hSw.cell (p := ⟨g, k * 5 + 1, none⟩) hgW).trans p1; have k2 := (hSw.cell (p := ⟨g, k * 5 + 2, none⟩) hgW).trans p2; have k3 := (hSw.cell (p := ⟨g, k * 5 + 3, none⟩) hgW).trans p3; have k4 := (hSw.cell (p := ⟨g, k * 5 + 4, none⟩) hgW).trans p4; go_simp; try (with_reducible rfl)
        simp only [Act.put, List.setIfInBounds_toArray, List.set_cons_zero, List.set_cons_succ]
        refine AtE.take (i := 33) (v := ?_) rfl (by kernel_rfl) (by kernel_rfl) (by kernel_rfl) (fun _ _ _ h => h) (by decide) (Or.inl ⟨by rfl, ?_⟩) hHeld ?_
        rotate_left
        · intro wH hSw; have k0 := (hSw.cell (p := ⟨g, k * 5, none⟩) hgW).trans p0; have k1 := (hSw.cell (p := ⟨g, k * 5 + 1, none⟩) hgW).trans p1; have k2 := (hSw.cell (p := ⟨g, k * 5 + 2, none⟩) hgW).trans p2; have k3 := (hSw.cell (p := ⟨g, k * 5 + 3, none⟩) hgW).trans p3; have k4 := (hSw.cell (p := ⟨g, k * 5 + 4, none⟩) hgW).trans p4; go_simp; try (with_reducible rfl)
        simp only [Act.put, List.setIfInBounds_toArray, List.set_cons_zero, List.set_cons_succ]
        refine AtE.one (i := 34) rfl (by kernel_rfl) (fun K hK => ?_)
        go_simp
        refine hK.out _ _ (fun h => absurd rfl h) (fun _ => ?_)
        clear hK K
        refine AtE.done (by kernel_rfl) ?_
        go_wp2
        go_roundw
        case rel => exact ⟨k + 1, by omega, by go_num, ext_trans HW.out hHeld⟩
        case measure => simp [intOf]; omega
    · go_wp2
      go_ret
      exact ⟨rfl, HW.out⟩
end Go.Proofs.Ytchmlhceidociaa
