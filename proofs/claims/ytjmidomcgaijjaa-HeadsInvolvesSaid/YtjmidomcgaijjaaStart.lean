/- What came in; the beginning. -/
import Derived.Test.YtjmidomcgaijjaaDo
namespace Go.Proofs.Ytjmidomcgaijjaa
set_option linter.unusedVariables false
open Go.RowKit

/-- a row of steps that came in -/
def Steps (w : World) (v : Value) (xs : List Stp) : Prop :=
  ∃ A c, v = .slice A xs.length c ∧ xs.length ≤ c ∧ c ≤ maxLen ∧ (∀ x ∈ xs, i64 x.rule) ∧ (0 < xs.length → ∃ b o, A = some ⟨b, o, none⟩ ∧ b < w.heap.size ∧
    ∀ k (hk : k < xs.length), w.cell? ⟨b, o + k * 3, none⟩ = some (.int .i64 xs[k].what) ∧ w.cell? ⟨b, o + k * 3 + 1, none⟩ = some (.int .i64 xs[k].rule) ∧ w.cell? ⟨b, o + k * 3 + 2, none⟩ = some (.bool xs[k].on))

def H0 : Hist := ⟨[], [], []⟩
theorem start_HH {w w1 : World} {p : Nat} {T : Nat → Prop} (hs : HS w1 p T []) (ht : ∀ b, T b → w.heap.size ≤ b) (hb : Below w.heap.size w w1) :
    ∃ F, HH (w1.alloc (.cells #[.pointer (some ⟨p, 0, none⟩), .slice none 0 0, .slice none 0 0, .slice none 0 0, .int .i64 0] 31)) w1.heap.size p F H0 (frsOf H0 []) ∧ Tm H0 [] 0 ∧
      Car w F (w1.alloc (.cells #[.pointer (some ⟨p, 0, none⟩), .slice none 0 0, .slice none 0 0, .slice none 0 0, .int .i64 0] 31)) := by
  have hz := hb.size
  refine ⟨_, ⟨T, _, _, _, ⟨Blk.new _ _ _, Tab.nil _ _ _, Tab.nil _ _ _, Tab.nil _ _ _⟩, hs.ext ((ext_refl w1).alloc (Nat.le_refl _) _), rfl⟩, ?_, hb.alloc hz _, ?_⟩
  · refine ⟨by simp [H0], by simp [H0], by simp [H0], by simp [H0], by simp [H0], by simp [H0], by simp [H0], rfl, by simp, by simp [H0]⟩
  · rintro k (hk | hk)
    · exact ht k hk
    · rcases hk with rfl | hk | hk | hk
      · exact hz
      · simp [Value.ownBlock] at hk
      · simp [Value.ownBlock] at hk
      · simp [Value.ownBlock] at hk

end Go.Proofs.Ytjmidomcgaijjaa
