/- A row of twigs of the call's own, written over. -/
import Derived.Test.YtchmlhceidociaaTwigK
namespace Go.Proofs.Ytchmlhceidociaa
set_option linter.unusedVariables false
set_option linter.unusedSimpArgs false
open Go.RowKit

set_option maxRecDepth 100000 in
set_option maxHeartbeats 800000 in
theorem overRow_any (ts : List Twg) (v : Value) (w : World) (h : RowT w v ts) (hn : ts.length ≤ 900000) :
    Calls Try.prog 17 #[v] w fun e w' => e = .returned (.tuple #[]) ∧ Upd (fun k => v.ownBlock = some k) w w' := by
  rcases h.2 with ⟨rfl, h1⟩ | ⟨g, cap, cur, rfl, hb, hg, h1, h2, h3, h4⟩
  · clear h h1
    go_enter Try.func17, Try.ntmps17
    go_wp2
    go_loopw [3] (fun i wr => i = .int .i64 0 ∧ w = wr) (fun i _ => 0)
    case atStart => exact ⟨rfl, rfl⟩
    case round =>
      obtain ⟨rfl, rfl⟩ := hrel
      go_wp2
      go_end0
      exact ⟨rfl, Upd.refl _ _⟩
  · refine (overTwigs_any ts.length cap _ g cur w hg h3 rfl h1 h2 hn).mono ?_
    rintro e w' ⟨rfl, hu⟩
    exact ⟨rfl, hu.mono (fun k _ hk => by rw [hk]; rfl)⟩
theorem overLent_any (ts : List Twg) (v : Value) (g : Nat) (w : World) (h : LentT w v g ts) (hn : ts.length ≤ 900000) :
    Calls Try.prog 17 #[v] w fun e w' => e = .returned (.tuple #[]) ∧ Upd (· = g) w w' := by
  obtain ⟨rfl, hb⟩ := h
  exact overTwigs_any ts.length (ts.length + 12) _ g _ w hb (by rw [List.size_toArray, twgs_len]; simp [marksT]) rfl (by omega) (by unfold maxLen; omega) hn
end Go.Proofs.Ytchmlhceidociaa
