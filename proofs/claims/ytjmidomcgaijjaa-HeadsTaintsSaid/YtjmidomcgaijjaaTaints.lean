/- HeadsTaints: the walk. -/
import Derived.Test.YtjmidomcgaijjaaStart
import Derived.Test.YtjmidomcgaijjaaSplit
import Derived.BigQuiet
namespace Go.Proofs.Ytjmidomcgaijjaa
set_option linter.unusedVariables false
set_option linter.unusedSimpArgs false
open Go.RowKit

/-- how many stand, by the memory -/
def lenAt (q : Nat) (w : World) : Nat := match w.cell? ⟨q, 1, none⟩ with
  | some (.slice _ n _) => n
  | _ => 0
theorem lenAt_of {w : World} {q p : Nat} {vl vr vt : Value} {H : Hist} (h : HisC w q p vl vr vt H) : lenAt q w = H.l.length := by
  obtain ⟨A, c, rfl, _⟩ := h.lform
  unfold lenAt
  rw [h.c1]

set_option maxRecDepth 100000 in
set_option maxHeartbeats 3200000 in
theorem taints_any (v : Value) (xs : List Stp) (w : World) (h : Steps w v xs) :
    Calls Try.prog 4 #[v] w fun e w' => e = .returned (.bool true) ∧ Below w.heap.size w w' := by
  obtain ⟨A, c, rfl, hc, hm, hi, hcells⟩ := h
  unfold maxLen at hm
  have HA := Lib.hid (fun W => awake_any W)
  by_cases hbig : 100 < xs.length
  · have hbig' : (100 : Int) < (xs.length : Int) := by omega
    have hd : decide (100 < xs.length) = true := by simpa using hbig
    go_enter Try.func4, Try.ntmps4
    go_wp2_with (first
      | (go_at_call 8; refine (HA.out _).mono ?_; rintro e w1 ⟨rfl, hb1⟩))
    go_ret
    exact ⟨rfl, hb1⟩
  have hd : decide (100 < xs.length) = false := by simpa using hbig
  have HI := Lib.hid hi
  have hle : xs.length ≤ 100 := by omega
  clear hbig hi
  go_enter Try.func4, Try.ntmps4
  go_wp2_with (first
    | (go_at_call 8; refine (HA.out _).mono ?_; rintro e w1 ⟨rfl, hb1⟩)
    | (go_at_call 9; refine (new_uni _).mono ?_; rintro e w2 ⟨p, T1, rfl, hs2, ht2, hb2⟩; have hst := start_HH hs2 ht2 hb2))
  obtain ⟨F0, hh0, htm0, hcar0⟩ := hst
  have hcar0 : Car w F0 (w2.alloc (.cells #[.pointer (some ⟨p, 0, none⟩), .slice none 0 0, .slice none 0 0, .slice none 0 0, .int .i64 0] 31)) := ⟨hb1.trans (hcar0.1.mono hb1.size), fun k hk => Nat.le_trans hb1.size (hcar0.2 k hk)⟩
  generalize (w2.alloc (.cells #[.pointer (some ⟨p, 0, none⟩), .slice none 0 0, .slice none 0 0, .slice none 0 0, .int .i64 0] 31)) = w3 at *
  generalize w2.heap.size = q at *
  clear hs2 ht2 hb2 hb1
  go_loopw [4] (fun i wr => ∃ k : Nat, k ≤ xs.length ∧ i = .int .i64 k ∧ ∃ F H I, HH wr q p F H (frsOf H I) ∧ Tm H I k ∧ Car w F wr) (fun i _ => xs.length - (intOf i).toNat)
  case atStart => exact ⟨0, Nat.zero_le _, rfl, _, _, _, hh0, htm0, hcar0⟩
  case round =>
    obtain ⟨k, hk, rfl, F, H, I, hh, htm, hcar⟩ := hrel
    clear hh0 htm0 hcar0
    by_cases hlt : k < xs.length
    · obtain ⟨b, o, rfl, hbl, hcell⟩ := hcells (by omega)
      have g := hcell k hlt
      have k0 : wr.cell? ⟨b, o + k * 3, none⟩ = some (.int .i64 xs[k].what) := (hcar.1.cell (p := ⟨b, o + k * 3, none⟩) hbl).trans g.1
      have k1 : wr.cell? ⟨b, o + k * 3 + 1, none⟩ = some (.int .i64 xs[k].rule) := (hcar.1.cell (p := ⟨b, o + k * 3 + 1, none⟩) hbl).trans g.2.1
      have k2 : wr.cell? ⟨b, o + k * 3 + 2, none⟩ = some (.bool xs[k].on) := (hcar.1.cell (p := ⟨b, o + k * 3 + 2, none⟩) hbl).trans g.2.2
      have hrule := HI.out _ (List.getElem_mem hlt)
      have G := Lib.hid g
      have hlk : (k : Int) < (xs.length : Int) := by omega
      generalize xs[k] = x at *
      have HD := Lib.hid (fun W (hb : Below wr.heap.size wr W) => do_any q p F H I k x W (hh.ext hb) htm (by omega))
      have HTM := Lib.hid (htm.hdo (x := x) hrule)
      obtain ⟨⟨H', I'⟩, hHI⟩ : ∃ HI', hdo k x (H, I) = HI' := ⟨_, rfl⟩
      rw [hHI] at HTM
      simp only [hHI] at HD
      have HT := Lib.hid (tainted_frs (H := H') (I := I'))
      obtain ⟨Sx, vl0, vr0, vt0, hc0, hs0, rfl⟩ := hh
      have z0 := hc0.c0
      clear g hcell hcells hHI hrule htm hc0 hs0
      go_wp2
      refine wp_region_held_drew (S := fun w' => w'.cell? ⟨b, o + k * 3, none⟩ = some (.int .i64 x.what) ∧ w'.cell? ⟨b, o + k * 3 + 1, none⟩ = some (.int .i64 x.rule) ∧ w'.cell? ⟨b, o + k * 3 + 2, none⟩ = some (.bool x.on)) (by kernel_rfl) (by simp [*]) (fun hHeld => ?_)
      refine wpAnyH_take (i := 0) (v := ?_) rfl (by kernel_rfl) (by kernel_rfl) (by kernel_rfl) (fun _ _ _ h => h) (Or.inl ⟨by rfl, ?_⟩) hHeld ?_
      rotate_left
      · intro w hSw; go_simp; try (with_reducible rfl)
      simp only [Act.put, List.setIfInBounds_toArray, List.set_cons_zero, List.set_cons_succ]
      refine wpAnyH_take (i := 1) (v := ?_) rfl (by kernel_rfl) (by kernel_rfl) (by kernel_rfl) (fun _ _ _ h => h) (Or.inl ⟨by rfl, ?_⟩) hHeld ?_
      rotate_left
      · intro w hSw; go_simp; try (with_reducible rfl)
      simp only [Act.put, List.setIfInBounds_toArray, List.set_cons_zero, List.set_cons_succ]
      refine wpAnyH_take (i := 2) (v := ?_) rfl (by kernel_rfl) (by kernel_rfl) (by kernel_rfl) (fun _ _ _ h => h) (Or.inl ⟨by rfl, ?_⟩) hHeld ?_
      rotate_left
      · intro w hSw; go_simp; try (with_reducible rfl)
      simp only [Act.put, List.setIfInBounds_toArray, List.set_cons_zero, List.set_cons_succ]
      refine wpAnyH_take (i := 3) (v := ?_) rfl (by kernel_rfl) (by kernel_rfl) (by kernel_rfl) (fun _ _ _ h => h) (Or.inl ⟨by rfl, ?_⟩) hHeld ?_
      rotate_left
      · intro w hSw; go_simp; try (with_reducible rfl)
      simp only [Act.put, List.setIfInBounds_toArray, List.set_cons_zero, List.set_cons_succ]
      refine wpAnyH_take (i := 4) (v := ?_) rfl (by kernel_rfl) (by kernel_rfl) (by kernel_rfl) (fun _ _ _ h => h) (Or.inl ⟨by rfl, ?_⟩) hHeld ?_
      rotate_left
      · intro w hSw; go_simp; try (with_reducible rfl)
      simp only [Act.put, List.setIfInBounds_toArray, List.set_cons_zero, List.set_cons_succ]
      refine wpAnyH_take (i := 5) (v := ?_) rfl (by kernel_rfl) (by kernel_rfl) (by kernel_rfl) (fun _ _ _ h => h) (Or.inl ⟨by rfl, ?_⟩) hHeld ?_
      rotate_left
      · intro w hSw; go_simp; try (with_reducible rfl)
      simp only [Act.put, List.setIfInBounds_toArray, List.set_cons_zero, List.set_cons_succ]
      refine wpAnyH_ready (rs := [6]) (by kernel_rfl) (by simp) ?_
      refine AllReadyH.cons rfl (fun K hK => ?_) AllReadyH.nil
      go_simp
      refine (HD.out _ ?_).mono ?_
      · exact (ext_refl wr).drew
      rintro e w4 ⟨rfl, F', hh', st'⟩
      have hcar4 := (hcar.step (Step.ext (ext_refl wr).drew)).step st'
      have HH4 := Lib.hid hh'
      obtain ⟨S', vl, vr, vt, hc4, hs4, hF⟩ := hh'
      obtain ⟨A4, c4, e4, _⟩ := hc4.lform
      have z0 := hc4.c0
      have z1 := hc4.c1
      have y0 := (hcar4.1.cell (p := ⟨b, o + k * 3, none⟩) hbl).trans G.out.1
      have y1 := (hcar4.1.cell (p := ⟨b, o + k * 3 + 1, none⟩) hbl).trans G.out.2.1
      have y2 := (hcar4.1.cell (p := ⟨b, o + k * 3 + 2, none⟩) hbl).trans G.out.2.2
      have HCAR4 := Lib.hid hcar4
      have hquiet : ∀ n, Upd (fun _ => False) w4 (w4.drewN n) := fun n => (Upd.refl _ _).drewN n
      have HTN := Lib.hid (fun n => tainted_uni S' (frsOf H' I') p (w4.drewN n) (hs4.keep (hquiet n) (fun _ _ h => h)))
      have HHN := Lib.hid (fun n m hm => hangs_any q p vl vr vt H' m hm (w4.drewN n) (hc4.keep (hquiet n) (fun _ _ h => h)))
      clear hcar4 hc4 hs4 hF st' hcar k0 k1 k2 HD
      refine hK.out _ _ ⟨y0, y1, y2⟩ (fun hHeld2 => ?_)
      clear hK K hHeld hHeld2
      refine wpAnyH_tail (C := fun w' => ∃ n, w' = w4.drewN n) 7 rfl rfl (by kernel_rfl) (by kernel_rfl) ?_ ⟨0, rfl⟩ ?_
      · rintro _ ⟨n, rfl⟩; exact ⟨by simpa using y0, by simpa using y1, by simpa using y2⟩
      clear y0 y1 y2
      simp only [List.drop_succ_cons, List.drop_zero]
      rcases List.eq_nil_or_concat H'.l with he | ⟨l', s', he⟩
      · have ht : taintedOf (frsOf H' I') = false := by rw [HT.out, he]; rfl
        have hl0 : H'.l.length = 0 := by rw [he]; rfl
        rw [ht] at HTN
        rw [hl0] at e4
        subst e4
        clear HT HHN
        repeat (go_big_quiet_step (fail))
        go_big_quiet_step ((go_at_call 13; exact Calls.quiet_of (HTN.out _)))
        repeat (go_big_quiet_step (fail))
        refine wpQuiet_nil ?_
        rintro w5 ⟨n5, e5⟩
        have hb5 : Below w4.heap.size w4 w5 := e5 ▸ (hquiet n5).below (Nat.le_refl _) (fun _ _ h => h)
        clear e5
        go_wp2
        go_roundw
        case rel => exact ⟨k + 1, by omega, by go_num, F', H', I', HH4.out.ext hb5, HTM.out, HCAR4.out.step (Step.ext hb5)⟩
        case measure => simp [intOf]; omega
      · have hl0 : H'.l.length = l'.length + 1 := by rw [he]; simp
        have hg : H'.l[l'.length]'(by omega) = s' := by simp [he]
        have ht : taintedOf (frsOf H' I') = hangsOf H' l'.length s'.since := by rw [HT.out]; simp [he]
        have HHN := Lib.hid (fun n => HHN.out n l'.length (by omega))
        rw [ht] at HTN
        rw [hl0] at e4
        subst e4
        rw [hg] at HHN
        clear HT he
        generalize hangsOf H' l'.length s'.since = tb at *
        have e3 : (tb != tb) = false := by simp
        have hpos : (0 : Int) < (l'.length : Int) + 1 := by omega
        have hw64 : wrap64 (l'.length : Int) = (l'.length : Int) := IntWalk.wrap64_in _ (by have := HTM.out.ll; omega)
        have hb5 := fun n w5 (e5 : w5 = w4.drewN n) => show Below w4.heap.size w4 w5 from e5 ▸ (hquiet n).below (Nat.le_refl _) (fun _ _ h => h)
        have HB5 := Lib.hid hb5
        clear hquiet hb5
        repeat (go_big_quiet_step (fail))
        go_big_quiet_step ((go_at_call 13; exact Calls.quiet_of (HTN.out _)))
        repeat (go_big_quiet_step (fail))
        go_big_quiet_step ((go_at_call 14; exact Calls.quiet_of (HHN.out _)))
        repeat (go_big_quiet_step (fail))
        refine wpQuiet_nil ?_
        rintro w5 ⟨n5, e5⟩
        have hb5 := HB5.out n5 w5 e5
        clear e5
        go_wp2
        go_roundw
        case rel => exact ⟨k + 1, by omega, by go_num, F', H', I', HH4.out.ext hb5, HTM.out, HCAR4.out.step (Step.ext hb5)⟩
        case measure => simp [intOf]; omega
    · go_wp2
      have hn := htm.ll
      go_loopw [] (fun wr => ∃ F H I n, HH wr q p F H (frsOf H I) ∧ Tm H I n ∧ n + H.l.length ≤ 200 ∧ Car w F wr) (fun wr => lenAt q wr)
      case atStart => exact ⟨F, H, I, k, hh, htm, by omega, hcar⟩
      case round =>
        clear hh htm hcar
        obtain ⟨F, H, I, n, hh, htm, hn, hcar⟩ := hrel
        have HL := Lib.hid (leave_HH hh htm (by omega))
        have HTM := Lib.hid htm.hLeave
        obtain ⟨Sx, vl, vr, vt, hc, hs, rfl⟩ := hh
        have hlen := lenAt_of hc
        obtain ⟨A4, c4, rfl, _⟩ := hc.lform
        have z1 := hc.c1
        clear hs hc
        rcases Nat.eq_zero_or_pos H.l.length with h0 | h0
        · rw [h0] at z1
          clear HL HTM
          go_wp2
          go_ret
          exact ⟨rfl, hcar.1⟩
        · have h0' : (0 : Int) < (H.l.length : Int) := by omega
          have HCAR := Lib.hid hcar
          have hm : (hLeave (H, I)).1.l.length = H.l.length - 1 := by unfold hLeave; simp
          have HM := Lib.hid hm
          clear hcar htm hm
          go_wp2_with (first
            | (go_at_call 15; refine HL.out.mono ?_; rintro e w6 ⟨rfl, F', hh', st'⟩))
          go_roundw
          case rel => exact ⟨F', _, _, n + 1, hh', HTM.out, by rw [HM.out]; omega, HCAR.out.step st'⟩
          case measure =>
            obtain ⟨_, _, _, _, hc', _, _⟩ := hh'
            rw [hlen, lenAt_of hc', HM.out]; omega
end Go.Proofs.Ytjmidomcgaijjaa
