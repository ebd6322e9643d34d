/- slices.Sort on a row of numbers of the call's own. -/
import Derived.Test.YtchmlhceidociaaGen
import Derived.Test.YtchmlhceidociaaShelf
import Derived.Sort.OwnSortedInts
namespace Go.Proofs.Ytchmlhceidociaa
set_option linter.unusedVariables false
open Go.RowKit

def sortL (l : List Int) : List Int := l.mergeSort (fun x y => decide (x ≤ y))
theorem sortL_length (l : List Int) : (sortL l).length = l.length := by simp [sortL]
theorem sortI_any (v : Value) (l : List Int) (w : World) (h : w.ownsRow 0 3 1 v l.length (l.map (Value.int .i64))) (hn : l.length ≤ 1000000) :
    Calls Try.prog 44 #[v] w fun e w' => e = .returned (.tuple #[]) ∧ w'.ownsRow 0 3 1 v l.length ((sortL l).map (Value.int .i64)) ∧ Upd (fun k => v.ownBlock = some k) w w' := by
  rcases h.2 with ⟨rfl, h1⟩ | ⟨g, cap, cur, rfl, hb, hg, h1, h2, h3, h4⟩
  · have hl : l = [] := List.eq_nil_of_length_eq_zero (by simpa using h1)
    subst hl
    refine (Try.slices_Sort_int_none none 0 w).mono ?_
    rintro e w' ⟨rfl, rfl⟩
    exact ⟨rfl, by simpa [sortL] using h, Upd.refl _ _⟩
  · have h4' : cur.toList.take l.length = l.map (Value.int .i64) := by simpa using h4
    refine (Try.slices_Sort_int g 0 cap l w (Go.holds_of_blockI hg h4') (lt_of_some hg) (by omega)).mono ?_
    rintro e w' ⟨rfl, n, os, rfl⟩
    refine ⟨rfl, Go.ownsRow_sortedI (sortL_length l) (Nat.zero_le _) hg h1 h2 (by simpa using h3), Upd.of_grown (Go.grownBy_sortedI _) (fun k hk => ?_)⟩
    cases hk
    rfl
end Go.Proofs.Ytchmlhceidociaa
