/- Twigs: written over. -/
import Derived.Test.YtchmlhceidociaaTwig
namespace Go.Proofs.Ytchmlhceidociaa
set_option linter.unusedVariables false
set_option linter.unusedSimpArgs false
open Go.RowKit

set_option maxRecDepth 100000 in
set_option maxHeartbeats 1600000 in
theorem overTwigs_any (n c m g : Nat) (cs : Array Value) (w : World) (hb : Blk w g 61 cs) (hs : cs.size = c * 5) (hm : m = if (n : Int) + 12 < (c : Int) then n + 12 else c) (hnc : n ≤ c) (hc : c ≤ maxLen) (hn : n ≤ 900000) :
    Calls Try.prog 17 #[.slice (some ⟨g, 0, none⟩) n c] w fun e w' => e = .returned (.tuple #[]) ∧ Upd (· = g) w w' := by
  unfold maxLen at hc
  have H0 : Hid (cs.size = c * 5) := hs
  clear hs
  have hmc : m ≤ c ∧ m ≤ 900012 := by
    rw [hm]
    split <;> omega
  rcases Int.lt_or_le ((n : Int) + 12) (c : Int) with h | h
  · have hN : ((n : Int) + 12).toNat = n + 12 := by omega
    have hN2 : ((n + 12 : Nat) : Int) ≤ (c : Int) := by omega
    go_enter Try.func17, Try.ntmps17
    go_wp2
    go_loopw [3] (fun i wr => ∃ k : Nat, k ≤ (n + 12) ∧ i = .int .i64 k ∧ (∃ cs', Blk wr g 61 cs' ∧ cs'.size = c * 5) ∧ Upd (· = g) w wr) (fun i _ => (n + 12) - (intOf i).toNat)
    case atStart => exact ⟨0, Nat.zero_le _, rfl, ⟨cs, hb, H0.out⟩, Upd.refl _ _⟩
    case round =>
      obtain ⟨k, hk, rfl, ⟨cs', hb', hs'⟩, hu⟩ := hrel
      have H1 := Lib.hid (And.intro hb' (And.intro hs' hu))
      by_cases hlt : k < (n + 12)
      · have hcell : ∀ j, j < 5 → ∃ u, cs'[k * 5 + j]? = some u := fun j hj => ⟨cs'[k * 5 + j]'(by omega), Array.getElem?_eq_getElem (by omega)⟩
        have HCE := Lib.hid hcell
        clear hs' hu hcell hb'
        go_wp2_with (first
          | (go_at_call 20; refine (markTwig_any 2 _ _ (by omega) (by omega) (by omega) (by omega)).mono ?_; rintro e w1 ⟨rfl, hb1⟩
             have hB1 := H1.out.1.ext hb1
             have HB1 := Lib.hid hb1
             have hcg := fun j (hj : j < 5) => show ∃ u, w1.cell? ⟨g, k * 5 + j, none⟩ = some u from by rw [hB1.cell]; exact HCE.out j hj
             obtain ⟨y0, c0⟩ := hcg 0 (by omega)
             rw [Nat.add_zero] at c0
             obtain ⟨y1, c1⟩ := hcg 1 (by omega)
             obtain ⟨y2, c2⟩ := hcg 2 (by omega)
             obtain ⟨y3, c3⟩ := hcg 3 (by omega)
             obtain ⟨y4, c4⟩ := hcg 4 (by omega)
             have f0 := hB1.frozen (k * 5)
             have f1 := hB1.frozen (k * 5 + 1)
             have f2 := hB1.frozen (k * 5 + 2)
             have f3 := hB1.frozen (k * 5 + 3)
             have f4 := hB1.frozen (k * 5 + 4)
             have fl := hB1.lt
             rw [show (markTw 2 (k : Int)).cells.toArray = #[.int .i64 (markOf 2 k), .int .i64 0, .int .i64 0, .int .i64 0, .int .i64 0] from rfl]
             have HBB := Lib.hid hB1
             clear hb1 hB1 hcg))
        go_roundw
        case rel => exact ⟨k + 1, by omega, by go_num, ⟨_, ((((HBB.out.set_ (k * 5) _).set_ (k * 5 + 1) _).set_ (k * 5 + 2) _).set_ (k * 5 + 3) _).set_ (k * 5 + 4) _, by simpa using H1.out.2.1⟩, (H1.out.2.2.trans (Upd.of_ext HB1.out)).trans (((((setCell_upd w1 g (k * 5) _).setCell (p := ⟨g, k * 5 + 1, none⟩) (fun _ => rfl) _).setCell (p := ⟨g, k * 5 + 2, none⟩) (fun _ => rfl) _).setCell (p := ⟨g, k * 5 + 3, none⟩) (fun _ => rfl) _).setCell (p := ⟨g, k * 5 + 4, none⟩) (fun _ => rfl) _)⟩
        case measure => simp [intOf]; omega
      · clear hs' hu hb'
        go_wp2
        go_end0
        exact ⟨rfl, H1.out.2.2⟩
  · go_enter Try.func17, Try.ntmps17
    go_wp2
    go_loopw [3] (fun i wr => ∃ k : Nat, k ≤ c ∧ i = .int .i64 k ∧ (∃ cs', Blk wr g 61 cs' ∧ cs'.size = c * 5) ∧ Upd (· = g) w wr) (fun i _ => c - (intOf i).toNat)
    case atStart => exact ⟨0, Nat.zero_le _, rfl, ⟨cs, hb, H0.out⟩, Upd.refl _ _⟩
    case round =>
      obtain ⟨k, hk, rfl, ⟨cs', hb', hs'⟩, hu⟩ := hrel
      have H1 := Lib.hid (And.intro hb' (And.intro hs' hu))
      by_cases hlt : k < c
      · have hcell : ∀ j, j < 5 → ∃ u, cs'[k * 5 + j]? = some u := fun j hj => ⟨cs'[k * 5 + j]'(by omega), Array.getElem?_eq_getElem (by omega)⟩
        have HCE := Lib.hid hcell
        clear hs' hu hcell hb'
        go_wp2_with (first
          | (go_at_call 20; refine (markTwig_any 2 _ _ (by omega) (by omega) (by omega) (by omega)).mono ?_; rintro e w1 ⟨rfl, hb1⟩
             have hB1 := H1.out.1.ext hb1
             have HB1 := Lib.hid hb1
             have hcg := fun j (hj : j < 5) => show ∃ u, w1.cell? ⟨g, k * 5 + j, none⟩ = some u from by rw [hB1.cell]; exact HCE.out j hj
             obtain ⟨y0, c0⟩ := hcg 0 (by omega)
             rw [Nat.add_zero] at c0
             obtain ⟨y1, c1⟩ := hcg 1 (by omega)
             obtain ⟨y2, c2⟩ := hcg 2 (by omega)
             obtain ⟨y3, c3⟩ := hcg 3 (by omega)
             obtain ⟨y4, c4⟩ := hcg 4 (by omega)
             have f0 := hB1.frozen (k * 5)
             have f1 := hB1.frozen (k * 5 + 1)
             have f2 := hB1.frozen (k * 5 + 2)
             have f3 := hB1.frozen (k * 5 + 3)
             have f4 := hB1.frozen (k * 5 + 4)
             have fl := hB1.lt
             rw [show (markTw 2 (k : Int)).cells.toArray = #[.int .i64 (markOf 2 k), .int .i64 0, .int .i64 0, .int .i64 0, .int .i64 0] from rfl]
             have HBB := Lib.hid hB1
             clear hb1 hB1 hcg))
        go_roundw
        case rel => exact ⟨k + 1, by omega, by go_num, ⟨_, ((((HBB.out.set_ (k * 5) _).set_ (k * 5 + 1) _).set_ (k * 5 + 2) _).set_ (k * 5 + 3) _).set_ (k * 5 + 4) _, by simpa using H1.out.2.1⟩, (H1.out.2.2.trans (Upd.of_ext HB1.out)).trans (((((setCell_upd w1 g (k * 5) _).setCell (p := ⟨g, k * 5 + 1, none⟩) (fun _ => rfl) _).setCell (p := ⟨g, k * 5 + 2, none⟩) (fun _ => rfl) _).setCell (p := ⟨g, k * 5 + 3, none⟩) (fun _ => rfl) _).setCell (p := ⟨g, k * 5 + 4, none⟩) (fun _ => rfl) _)⟩
        case measure => simp [intOf]; omega
      · clear hs' hu hb'
        go_wp2
        go_end0
        exact ⟨rfl, H1.out.2.2⟩
end Go.Proofs.Ytchmlhceidociaa
