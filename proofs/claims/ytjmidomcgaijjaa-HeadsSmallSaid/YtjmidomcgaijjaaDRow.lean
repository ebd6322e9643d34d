/- A row of deeds that the call itself has made. -/
import Derived.Test.YtjmidomcgaijjaaDeed
namespace Go.Proofs.Ytjmidomcgaijjaa
set_option linter.unusedVariables false
set_option linter.unusedSimpArgs false
open Go.RowKit

def dCells (e : Dd × Value) : List Value := [.int .i64 e.1.what, .int .i64 e.1.rule, .int .i64 e.1.place, e.2]
theorem dCells_at (es : List (Dd × Value)) (k : Nat) (hk : k < es.length) (j : Nat) (hj : j < 4) : (es.flatMap dCells)[k * 4 + j]? = (dCells es[k])[j]? := by
  induction es generalizing k with
  | nil => simp at hk
  | cons e es ih =>
    have hl : (dCells e).length = 4 := rfl
    rw [List.flatMap_cons]
    cases k with
    | zero => rw [List.getElem?_append_left (by omega)]; simp
    | succ k =>
      rw [List.getElem?_append_right (by omega), show (k + 1) * 4 + j - (dCells e).length = k * 4 + j by omega]
      exact ih k (by simpa using hk)
def DOk (w : World) (e : Dd × Value) : Prop := RowI w e.2 e.1.touched ∧ i64 e.1.rule ∧ i64 e.1.place ∧ (∀ x ∈ e.1.touched, i64 x) ∧ e.1.touched.length ≤ 100
def DRow (w : World) (v : Value) (es : List (Dd × Value)) : Prop := w.ownsRow 0 55 4 v es.length (es.flatMap dCells) ∧ ∀ e ∈ es, DOk w e
theorem DOk.keep {w w' : World} {S : Nat → Prop} {e : Dd × Value} (h : DOk w e) (hu : Upd S w w') (hn : ∀ k, e.2.ownBlock = some k → ¬ S k) : DOk w' e := ⟨h.1.keep hu hn, h.2⟩
theorem DRow.ext {w w' : World} {v : Value} {es : List (Dd × Value)} (h : DRow w v es) (hb : Below w.heap.size w w') : DRow w' v es :=
  ⟨ownsRow_keep (S := fun _ => False) h.1 (Upd.of_ext hb) (fun _ _ h => h), fun e he => (h.2 e he).keep (S := fun _ => False) (Upd.of_ext hb) (fun _ _ h => h)⟩
theorem DRow.nil (w : World) : DRow w (.slice none 0 0) [] := ⟨World.ownsRow_nil _ _ _ _, by simp⟩
theorem DRow.push {w w' : World} {v v' : Value} {es news : List (Dd × Value)} {n : Nat} {xs : List Value} (h : DRow w v es) (hnew : ∀ e ∈ news, DOk w e) (hx : xs = news.flatMap dCells) (hn : n = es.length + news.length)
    (hrow : w'.ownsRow 0 55 4 v' n (es.flatMap dCells ++ xs)) (hu : Upd (fun k => v.ownBlock = some k) w w') : DRow w' v' (es ++ news) := by
  subst hx hn
  have hk : ∀ e, DOk w e → DOk w' e := fun e he => he.keep hu (fun k hk e' => by
    obtain ⟨c1, hb1⟩ := own_blk h.1 e'
    obtain ⟨c2, hb2⟩ := own_blk he.1.1 hk
    exact Blk.ne_ hb1 hb2 (by decide) rfl)
  refine ⟨by rw [List.length_append, List.flatMap_append]; exact hrow, fun e he => ?_⟩
  rcases List.mem_append.1 he with he | he
  · exact hk e (h.2 e he)
  · exact hk e (hnew e he)
theorem DRow.deeds {w : World} {v : Value} {es : List (Dd × Value)} (h : DRow w v es) (hn : es.length ≤ 1000) : Deeds w v (es.map (·.1)) := by
  have hf : ∃ A c, v = .slice A es.length c ∧ es.length ≤ c ∧ c ≤ maxLen ∧ (0 < es.length → ∃ g, A = some ⟨g, 0, none⟩ ∧ g < w.heap.size) := by
    rcases h.1.2 with ⟨rfl, h1⟩ | ⟨g, cap, cur, rfl, hb, hg, h1, h2, h3, h4⟩
    · exact ⟨none, 0, by rw [h1], by omega, by simp, fun h => by omega⟩
    · exact ⟨some ⟨g, 0, none⟩, cap, rfl, h1, h2, fun _ => ⟨g, rfl, lt_of_some hg⟩⟩
  obtain ⟨A, c, rfl, h1, h2, h3⟩ := hf
  refine ⟨A, c, by simp, by simpa using h1, h2, by simp; omega, fun d hd => ?_, fun hn => ?_⟩
  · obtain ⟨e, he, rfl⟩ := List.mem_map.1 hd
    obtain ⟨_, a, b, c, d⟩ := h.2 e he
    exact ⟨a, b, c, by omega⟩
  · rw [List.length_map] at hn
    obtain ⟨g, rfl, hg⟩ := h3 hn
    refine ⟨g, 0, rfl, hg, fun k hk => ?_⟩
    have hk' : k < es.length := by simpa using hk
    have key : ∀ j (hj : j < 4), w.cell? ⟨g, k * 4 + j, none⟩ = some ((dCells es[k])[j]'hj) := by
      intro j hj
      have := (World.ownsRow.cells h.1 rfl) (k * 4 + j) _ ((dCells_at es k hk' j hj).trans (List.getElem?_eq_getElem hj))
      rw [Addr.add_lit, Nat.zero_add] at this
      exact this
    rw [List.getElem_map, Nat.zero_add]
    exact ⟨es[k].2, key 0 (by omega), key 1 (by omega), key 2 (by omega), key 3 (by omega), (h.2 _ (List.getElem_mem hk')).1.ints⟩
end Go.Proofs.Ytjmidomcgaijjaa
