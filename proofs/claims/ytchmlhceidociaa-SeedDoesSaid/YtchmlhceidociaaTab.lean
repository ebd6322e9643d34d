/- Rows of rows of numbers. -/
import Derived.Test.YtchmlhceidociaaGen
namespace Go.Proofs.Ytchmlhceidociaa
set_option linter.unusedVariables false
open Go.RowKit

/-- a row of rows of numbers, each of sz -/
def Tab (w : World) (t : TypeId) (sz : Nat) (v : Value) (rows : List (List Int)) : Prop :=
  w.ownsRow 0 t sz v rows.length (rows.flatMap fun r => r.map (Value.int .i64)) ∧ ∀ r ∈ rows, r.length = sz
theorem flat_at (sz : Nat) : ∀ (rows : List (List Int)) (hr : ∀ r ∈ rows, r.length = sz) (k j : Nat) (hk : k < rows.length) (hj : j < sz),
    (rows.flatMap fun r => r.map (Value.int .i64))[k * sz + j]? = some (.int .i64 ((rows[k]).getD j 0))
  | [], _, k, _, hk, _ => by simp at hk
  | r :: rows, hr, 0, j, _, hj => by
    have := hr r (by simp)
    rw [List.flatMap_cons, List.getElem?_append_left (by simp; omega)]
    simp [List.getD, show j < r.length by omega]
  | r :: rows, hr, k + 1, j, hk, hj => by
    have h1 := hr r (by simp)
    have e : (k + 1) * sz = sz + k * sz := by rw [Nat.add_mul, Nat.one_mul, Nat.add_comm]
    rw [List.flatMap_cons, List.getElem?_append_right (by simp; omega)]
    have h2 : (k + 1) * sz + j - (r.map (Value.int .i64)).length = k * sz + j := by simp [h1, e]; omega
    rw [h2, flat_at sz rows (fun x hx => hr x (by simp [hx])) k j (by simpa using hk) hj]
    rfl
theorem Tab.form {w : World} {t : TypeId} {sz : Nat} {v : Value} {rows : List (List Int)} (h : Tab w t sz v rows) :
    ∃ A c, v = .slice A rows.length c ∧ rows.length ≤ c ∧ c ≤ maxLen ∧ (A = none → c = 0) ∧
      (0 < rows.length → ∃ g, A = some ⟨g, 0, none⟩ ∧ g < w.heap.size ∧ ∀ k j, (hk : k < rows.length) → j < sz → w.cell? ⟨g, k * sz + j, none⟩ = some (.int .i64 ((rows[k]).getD j 0))) := by
  obtain ⟨h0, hr⟩ := h
  rcases h0.2 with ⟨rfl, h1⟩ | ⟨g, cap, cur, rfl, hb, hg, h1, h2, h3, h4⟩
  · exact ⟨none, 0, by rw [h1], by omega, by simp, fun _ => rfl, fun h => by omega⟩
  · refine ⟨some ⟨g, 0, none⟩, cap, rfl, h1, h2, by simp, fun hn => ⟨g, rfl, lt_of_some hg, fun k j hk hj => ?_⟩⟩
    have e : (Value.slice (some ⟨g, 0, none⟩) rows.length cap) = .slice (some ⟨g, 0, none⟩) rows.length cap := rfl
    have := (World.ownsRow.cells h0 rfl) (k * sz + j) _ (flat_at sz rows hr k j hk hj)
    rw [Addr.add_lit, Nat.zero_add] at this
    exact this
theorem Tab.keep {w w' : World} {t : TypeId} {sz : Nat} {v : Value} {rows : List (List Int)} {S : Nat → Prop} (h : Tab w t sz v rows) (hu : Upd S w w') (hn : ∀ k, v.ownBlock = some k → ¬ S k) : Tab w' t sz v rows :=
  ⟨ownsRow_keep h.1 hu hn, h.2⟩
theorem Tab.nil (w : World) (t : TypeId) (sz : Nat) : Tab w t sz (.slice none 0 0) [] := ⟨World.ownsRow_nil _ _ _ _, by simp⟩
end Go.Proofs.Ytchmlhceidociaa
