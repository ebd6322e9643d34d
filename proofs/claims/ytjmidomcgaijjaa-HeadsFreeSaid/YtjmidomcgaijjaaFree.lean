/- HeadsFree: the walk. -/
import Derived.Test.YtjmidomcgaijjaaStart
namespace Go.Proofs.Ytjmidomcgaijjaa
set_option linter.unusedVariables false
open Go.RowKit

/-- none of some rules stands at a place -/
def noneAt (l : List St) (pl : Int) (rs : List Int) : Bool := rs.all fun r => decide (posOf (isSt r pl) l < 0)
theorem noneAt_snoc (l : List St) (pl : Int) (rs : List Int) (k : Nat) (hk : k < rs.length) : noneAt l pl (rs.take (k + 1)) = (noneAt l pl (rs.take k) && decide (posOf (isSt rs[k] pl) l < 0)) := by
  unfold noneAt
  rw [List.take_succ_eq_append_getElem hk, List.all_append]
  simp
theorem free_none {H : Hist} {I : List (List Int)} (rs : List Int) (pl : Int) : (!(rs.any fun r => standsAt (frsOf H I) r pl)) = noneAt H.l pl rs := by
  have : ∀ r, (!standsAt (frsOf H I) r pl) = decide (posOf (isSt r pl) H.l < 0) := by
    intro r
    rw [any_frs, ← pos_any]
    by_cases h : posOf (isSt r pl) H.l < 0
    · simp [h]
    · simp [h]; omega
  unfold noneAt
  rw [List.not_any_eq_all_not]
  congr 1
  funext r
  exact this r

set_option maxRecDepth 100000 in
set_option maxHeartbeats 3200000 in
theorem free_law (v rv : Value) (xs : List Stp) (rs : List Int) (pl : Int) (w : World) (h : Steps w v xs) (hr : Ints w rv rs) :
    Calls Try.prog 5 #[v, rv, .int .i64 pl] w fun e w' => e = .returned (.bool true) ∧ Below w.heap.size w w' := by
  obtain ⟨A, c, rfl, hc, hm, hi, hcells⟩ := h
  have hrints := hr
  obtain ⟨R, rc, rfl, hrc, hrm, _, hrcells⟩ := hr.form
  unfold maxLen at hm hrm
  have HA := Lib.hid (fun W => awake_any W)
  by_cases hbig : 100 < xs.length
  · have hbig' : (100 : Int) < (xs.length : Int) := by omega
    have hd : decide (100 < xs.length) = true := by simpa using hbig
    go_enter Try.func5, Try.ntmps5
    go_wp2_with (first
      | (go_at_call 8; refine (HA.out _).mono ?_; rintro e w1 ⟨rfl, hb1⟩))
    go_ret
    exact ⟨rfl, hb1⟩
  have hd : decide ((100 : Int) < (xs.length : Int)) = false := by simp; omega
  by_cases hbig2 : 100 < rs.length
  · have hbig' : (100 : Int) < (rs.length : Int) := by omega
    have hd2 : decide ((100 : Int) < (rs.length : Int)) = true := by simp; omega
    go_enter Try.func5, Try.ntmps5
    go_wp2_with (first
      | (go_at_call 8; refine (HA.out _).mono ?_; rintro e w1 ⟨rfl, hb1⟩))
    go_ret
    exact ⟨rfl, hb1⟩
  have hd2 : decide ((100 : Int) < (rs.length : Int)) = false := by simp; omega
  have HI := Lib.hid hi
  have HRI := Lib.hid hrints
  have hle : xs.length ≤ 100 := by omega
  clear hbig hi hbig2 hrints hr
  go_enter Try.func5, Try.ntmps5
  go_wp2_with (first
    | (go_at_call 8; refine (HA.out _).mono ?_; rintro e w1 ⟨rfl, hb1⟩)
    | (go_at_call 9; refine (new_uni _).mono ?_; rintro e w2 ⟨p, T1, rfl, hs2, ht2, hb2⟩; have hst := start_HH hs2 ht2 hb2))
  obtain ⟨F0, hh0, htm0, hcar0⟩ := hst
  have hcar0 : Car w F0 (w2.alloc (.cells #[.pointer (some ⟨p, 0, none⟩), .slice none 0 0, .slice none 0 0, .slice none 0 0, .int .i64 0] 31)) := ⟨hb1.trans (hcar0.1.mono hb1.size), fun k hk => Nat.le_trans hb1.size (hcar0.2 k hk)⟩
  generalize (w2.alloc (.cells #[.pointer (some ⟨p, 0, none⟩), .slice none 0 0, .slice none 0 0, .slice none 0 0, .int .i64 0] 31)) = w3 at *
  generalize w2.heap.size = q at *
  clear hs2 ht2 hb2 hb1
  go_loopw [8] (fun i wr => ∃ k : Nat, k ≤ xs.length ∧ i = .int .i64 k ∧ ∃ F H I, HH wr q p F H (frsOf H I) ∧ Tm H I k ∧ Car w F wr) (fun i _ => xs.length - (intOf i).toNat)
  case atStart => exact ⟨0, Nat.zero_le _, rfl, _, _, _, hh0, htm0, hcar0⟩
  case round =>
    obtain ⟨k, hk, rfl, F, H, I, hh, htm, hcar⟩ := hrel
    clear hh0 htm0 hcar0
    by_cases hlt : k < xs.length
    · obtain ⟨b, o, rfl, hbl, hcell⟩ := hcells (by omega)
      have g := hcell k hlt
      have hrule := HI.out _ (List.getElem_mem hlt)
      have k0 : wr.cell? ⟨b, o + k * 3, none⟩ = some (.int .i64 xs[k].what) := (hcar.1.cell (p := ⟨b, o + k * 3, none⟩) hbl).trans g.1
      have k1 : wr.cell? ⟨b, o + k * 3 + 1, none⟩ = some (.int .i64 xs[k].rule) := (hcar.1.cell (p := ⟨b, o + k * 3 + 1, none⟩) hbl).trans g.2.1
      have k2 : wr.cell? ⟨b, o + k * 3 + 2, none⟩ = some (.bool xs[k].on) := (hcar.1.cell (p := ⟨b, o + k * 3 + 2, none⟩) hbl).trans g.2.2
      have hlk : (k : Int) < (xs.length : Int) := by omega
      generalize xs[k] = x at *
      have HD := Lib.hid (do_any q p F H I k x wr hh htm (by omega))
      have HTM := Lib.hid (htm.hdo (x := x) hrule)
      obtain ⟨⟨H', I'⟩, hHI⟩ : ∃ HI', hdo k x (H, I) = HI' := ⟨_, rfl⟩
      rw [hHI] at HTM
      simp only [hHI] at HD
      clear g hcell hHI hrule htm hh
      go_wp2_with (first
        | (go_at_call 10; refine HD.out.mono ?_; rintro e w4 ⟨rfl, F', hh', st'⟩))
      have hcar4 := hcar.step st'
      have HK4 := Lib.hid (And.intro hh' (And.intro hcar4 st'))
      clear k0 k1 k2 HD hcar
      obtain ⟨S', vl, vr, vt, hc4, hs4, hF⟩ := hh'
      have z0 := hc4.c0
      have HW := Lib.hid (fun r => where_any q p vl vr vt H' r pl w4 hc4)
      have HF := Lib.hid (fun W (hb : Below w4.heap.size w4 W) => free_none (H := H') (I := I') rs pl ▸ free_uni S' _ rs (.slice R rs.length rc) pl p W (hs4.ext hb) (HRI.out.of_cells (fun a u ha => ((hcar4.1.trans (hb.mono hcar4.1.size)).cell (World.block_lt_of_cell? w a ha)).trans ha)))
      have HF0 := Lib.hid (fun W (hb : Below w4.heap.size w4 W) => free_uni S' (frsOf H' I') [] (.slice none 0 0) pl p W (hs4.ext hb) ⟨none, 0, rfl, Nat.le_refl _, by simp, fun _ => rfl, rfl, fun h => by simp at h⟩)
      have hzq := hc4.blk.lt
      clear hc4 hs4 hF st'
      go_loopw [9, 10] (fun nb i wr => ∃ j : Nat, j ≤ rs.length ∧ i = .int .i64 j ∧ nb = .bool (noneAt H'.l pl (rs.take j)) ∧ w4 = wr) (fun _ i _ => rs.length - (intOf i).toNat)
      case atStart => exact ⟨0, Nat.zero_le _, rfl, rfl, rfl⟩
      case round =>
        obtain ⟨j, hj, rfl, rfl, rfl⟩ := hrel
        by_cases hltj : j < rs.length
        · obtain ⟨rb, ro, rfl, hrcell⟩ := hrcells (by omega)
          have hck := hrcell j hltj
          have hrl : rb < w.heap.size := World.block_lt_of_cell? w _ hck
          have g0 : w4.cell? ⟨rb, ro + j, none⟩ = some (.int .i64 rs[j]) := by
            have e : rs.getD j 0 = rs[j] := by simp [List.getD, hltj]
            rw [e] at hck
            exact (hcar4.1.cell (p := ⟨rb, ro + j, none⟩) hrl).trans hck
          have HS := Lib.hid (noneAt_snoc H'.l pl rs j hltj)
          have HWr := Lib.hid (HW.out rs[j])
          have hjl : (j : Int) < (rs.length : Int) := by omega
          clear hck hrcell
          generalize rs[j] = r at *
          generalize posOf (isSt r pl) H'.l = pos at *
          cases hnb : noneAt H'.l pl (rs.take j)
          · have HNB := Lib.hid hnb
            go_wp2
            go_roundw
            case rel => exact ⟨j + 1, by omega, by go_num, by rw [HS.out, HNB.out]; rfl, trivial⟩
            case measure => simp [intOf]; omega
          · have HNB := Lib.hid hnb
            go_wp2_with (first | (go_at_call 16; refine HWr.out.mono ?_; rintro e w5 ⟨rfl, rfl⟩))
            go_roundw
            case rel => exact ⟨j + 1, by omega, by go_num, by rw [HS.out, HNB.out]; rfl, trivial⟩
            case measure => simp [intOf]; omega
        · obtain rfl : j = rs.length := by omega
          rw [List.take_length]
          generalize noneAt H'.l pl rs = nb at *
          have e3 : (nb != nb) = false := by simp
          go_wp2_with (first
            | (go_at_call_of 17 (Value.slice R rs.length rc); refine (HF.out _ ?_).mono ?_; exact ext_refl _; rintro e w5 ⟨rfl, hb5⟩; have z5 := (hb5.cell (p := ⟨q, 0, none⟩) hzq).trans z0)
            | (go_at_call 17; refine (HF0.out _ ?_).mono ?_; exact hb5; rintro e w6 ⟨rfl, hb6⟩))
          go_roundw
          case rel =>
            have hb6' := ext_trans hb5 hb6
            exact ⟨k + 1, by omega, by go_num, F', H', I', HK4.out.1.ext hb6', HTM.out, HK4.out.2.1.step (Step.ext hb6')⟩
          case measure => simp [intOf]; omega
    · go_wp2
      go_ret
      exact ⟨rfl, hcar.1⟩
end Go.Proofs.Ytjmidomcgaijjaa
