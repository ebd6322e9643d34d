/- The document's stack in memory: a row of activations, each with two rows of rules. -/
import Derived.Test.YtjmidomcgaijjaaRefK
namespace Go.Proofs.Ytjmidomcgaijjaa
set_option linter.unusedVariables false
set_option linter.unusedSimpArgs false
open Go.RowKit

structure FrR where
  f : Fr
  tv : Value
  iv : Value
def FrR.cells (c : FrR) : List Value := [.int .i64 c.f.rule, .int .i64 c.f.place, c.tv, c.iv, .bool c.f.tainted]
def rowR (cs : List FrR) : List Value := cs.flatMap FrR.cells
theorem rowR_length (cs : List FrR) : (rowR cs).length = cs.length * 5 := by
  induction cs with
  | nil => rfl
  | cons c cs ih =>
    unfold rowR at ih ⊢
    rw [List.flatMap_cons, List.length_append, ih, List.length_cons, Nat.add_mul, Nat.one_mul, Nat.add_comm]
    rfl
theorem rowR_at (cs : List FrR) (i : Nat) (h : i < cs.length) (j : Nat) (hj : j < 5) : (rowR cs)[i * 5 + j]? = (cs[i]).cells[j]? := by
  induction cs generalizing i with
  | nil => simp at h
  | cons c cs ih =>
    have hl : c.cells.length = 5 := rfl
    unfold rowR at ih ⊢
    rw [List.flatMap_cons]
    cases i with
    | zero => rw [List.getElem?_append_left (by omega)]; simp
    | succ i =>
      rw [List.getElem?_append_right (by omega), show (i + 1) * 5 + j - c.cells.length = i * 5 + j by omega]
      exact ih i (by simpa using h)
theorem rowR_snoc (cs : List FrR) (c : FrR) : rowR (cs ++ [c]) = rowR cs ++ c.cells := by simp [rowR]
theorem rowR_set {cs : List FrR} {k j : Nat} (hk : k < cs.length) (hj : j < 5) {c : FrR} {u : Value} (hc : c.cells = (cs[k]).cells.set j u) : rowR (cs.set k c) = (rowR cs).set (k * 5 + j) u := by
  induction cs generalizing k with
  | nil => simp at hk
  | cons d cs ih =>
    have hl : d.cells.length = 5 := rfl
    unfold rowR at ih ⊢
    cases k with
    | zero => rw [List.set_cons_zero, List.flatMap_cons, List.flatMap_cons, List.set_append_left _ _ (by omega), hc]; simp
    | succ k =>
      rw [List.set_cons_succ, List.flatMap_cons, List.flatMap_cons, List.set_append_right _ _ (by omega), show (k + 1) * 5 + j - d.cells.length = k * 5 + j by omega]
      rw [← ih (show k < cs.length by simpa using hk) (by simpa using hc)]
def frR (cs : List FrR) : List Fr := cs.map (·.f)
theorem frR_length (cs : List FrR) : (frR cs).length = cs.length := by simp [frR]

/-- q leads to the activations cs, whose row is v -/
structure RefC (w : World) (q : Nat) (v : Value) (cs : List FrR) : Prop where
  blk : Blk w q 53 #[v]
  row : w.ownsRow 0 69 5 v cs.length (rowR cs)
  rows : ∀ c ∈ cs, RowI w c.tv c.f.touched ∧ RowI w c.iv c.f.involved
def RFoot (q : Nat) (v : Value) (cs : List FrR) (k : Nat) : Prop := k = q ∨ v.ownBlock = some k ∨ ∃ c ∈ cs, c.tv.ownBlock = some k ∨ c.iv.ownBlock = some k

section
variable {w : World} {q : Nat} {v : Value} {cs : List FrR}
theorem RefC.c0 (h : RefC w q v cs) : w.cell? ⟨q, 0, none⟩ = some v := by rw [h.blk.cell]; rfl
theorem RefC.foot_lt (h : RefC w q v cs) {k : Nat} (hk : RFoot q v cs k) : k < w.heap.size := by
  rcases hk with rfl | hk | ⟨c, hc, hk | hk⟩
  · exact h.blk.lt
  · exact (h.row.lt k hk).2
  · exact ((h.rows c hc).1.1.lt k hk).2
  · exact ((h.rows c hc).2.1.lt k hk).2
theorem RefC.keep {w' : World} {S : Nat → Prop} (h : RefC w q v cs) (hu : Upd S w w') (hn : ∀ k, RFoot q v cs k → ¬ S k) : RefC w' q v cs :=
  ⟨h.blk.keep hu (hn _ (.inl rfl)), ownsRow_keep h.row hu (fun k hk => hn k (.inr (.inl hk))),
    fun c hc => ⟨(h.rows c hc).1.keep hu (fun k hk => hn k (.inr (.inr ⟨c, hc, .inl hk⟩))), (h.rows c hc).2.keep hu (fun k hk => hn k (.inr (.inr ⟨c, hc, .inr hk⟩)))⟩⟩
theorem RefC.ext {w' : World} (h : RefC w q v cs) (hb : Below w.heap.size w w') : RefC w' q v cs := h.keep (S := fun _ => False) (Upd.of_ext hb) (fun _ _ h => h)
theorem RefC.form (h : RefC w q v cs) : ∃ A c, v = .slice A cs.length c ∧ cs.length ≤ c ∧ c ≤ maxLen ∧ (A = none → c = 0) ∧
    (0 < cs.length → ∃ g, A = some ⟨g, 0, none⟩ ∧ g < w.heap.size ∧ w.frozen? ⟨g, 0, none⟩ = false ∧ ∀ k (hk : k < cs.length), w.cell? ⟨g, k * 5, none⟩ = some (.int .i64 cs[k].f.rule) ∧ w.cell? ⟨g, k * 5 + 1, none⟩ = some (.int .i64 cs[k].f.place) ∧
      w.cell? ⟨g, k * 5 + 2, none⟩ = some cs[k].tv ∧ w.cell? ⟨g, k * 5 + 3, none⟩ = some cs[k].iv ∧ w.cell? ⟨g, k * 5 + 4, none⟩ = some (.bool cs[k].f.tainted)) := by
  have h0 := h.row
  rcases h0.2 with ⟨rfl, h1⟩ | ⟨g, cap, cur, rfl, hb, hg, h1, h2, h3, h4⟩
  · exact ⟨none, 0, by rw [h1], by omega, by simp, fun _ => rfl, fun h => by omega⟩
  · refine ⟨some ⟨g, 0, none⟩, cap, rfl, h1, h2, by simp, fun hn => ⟨g, rfl, lt_of_some hg, Blk.frozen (t := 69) hg 0, fun k hk => ?_⟩⟩
    have key : ∀ j (hj : j < 5), w.cell? ⟨g, k * 5 + j, none⟩ = some ((cs[k]).cells[j]'hj) := by
      intro j hj
      have := (World.ownsRow.cells h0 rfl) (k * 5 + j) _ ((rowR_at cs k hk j hj).trans (List.getElem?_eq_getElem hj))
      rw [Addr.add_lit, Nat.zero_add] at this
      exact this
    exact ⟨key 0 (by omega), key 1 (by omega), key 2 (by omega), key 3 (by omega), key 4 (by omega)⟩
/-- which kinds its blocks are of -/
theorem RefC.own_ne (h : RefC w q v cs) : v.ownBlock ≠ some q := fun e => by
  obtain ⟨cur, hb⟩ := own_blk h.row e
  exact Blk.ne_ hb h.blk (by decide) rfl
theorem RowI.ne {l : List Int} {u : Value} (h : RowI w u l) {g : Nat} {t : TypeId} {cur : Array Value} (hb : Blk w g t cur) (ht : t ≠ 3) : u.ownBlock ≠ some g := fun e => by
  obtain ⟨cur', hb'⟩ := own_blk h.1 e
  exact Blk.ne_ hb' hb (Ne.symm ht) rfl
/-- one cell of one activation is turned -/
theorem RefC.set (h : RefC w q v cs) {g cap n k j : Nat} (hv : v = .slice (some ⟨g, 0, none⟩) n cap) (hk : k < cs.length) (hj : j < 5) {u : Value} {c : FrR} (hc : c.cells = (cs[k]).cells.set j u)
    (hr : RowI w c.tv c.f.touched ∧ RowI w c.iv c.f.involved) : RefC (w.setCell ⟨g, k * 5 + j, none⟩ u) q v (cs.set k c) := by
  have hu := setCell_upd w g (k * 5 + j) u
  obtain ⟨hlen, ⟨_, h0⟩ | ⟨g', cap', cur, e, hb0, hg, h1, h2, h3, h4⟩⟩ := h.row
  · omega
  have he : g' = g := by rw [hv] at e; injection e with e _ _; injection e with e; injection e with e1 _ _; exact e1.symm
  subst he
  have hgq : g' ≠ q := fun e => Blk.ne_ (t := 69) hg h.blk (by decide) e
  have hgi : ∀ {l : List Int} {u : Value}, RowI w u l → u.ownBlock ≠ some g' := fun hr => hr.ne (t := 69) hg (by decide)
  have hk5 : ∀ {l : List Int} {x : Value}, RowI w x l → RowI (w.setCell ⟨g', k * 5 + j, none⟩ u) x l := fun hx => hx.keep hu (fun m hm e => hgi hx (by rw [hm, e]))
  refine ⟨h.blk.keep hu hgq.symm, ⟨by rw [rowR_set hk hj hc, List.length_set, List.length_set, hlen], .inr ⟨g', cap', cur.setIfInBounds (k * 5 + j) u, by rw [e, List.length_set], Nat.zero_le _, ?_, by rw [List.length_set]; exact h1, h2, by simpa using h3, ?_⟩⟩, fun d hd => ?_⟩
  · simp [World.setCell, Array.getElem?_modify, hg]
  · rw [rowR_set hk hj hc, List.length_set, Array.toList_setIfInBounds, List.take_set, h4]
  · obtain ⟨m, hm, rfl⟩ := List.getElem_of_mem hd
    rw [List.length_set] at hm
    by_cases hmk : m = k
    · subst hmk
      simp only [List.getElem_set_self]
      exact ⟨hk5 hr.1, hk5 hr.2⟩
    · rw [List.getElem_set_ne (Ne.symm hmk)]
      have hs := h.rows _ (List.getElem_mem hm)
      exact ⟨hk5 hs.1, hk5 hs.2⟩
/-- an activation more -/
theorem RefC.push {w0 w2 : World} (h : RefC w0 q v cs) {v' : Value} {c : FrR} (hrow : w2.ownsRow 0 69 5 v' (cs.length + 1) (rowR cs ++ c.cells)) (hu : Upd (fun k => v.ownBlock = some k) w0 w2)
    (hv : ∀ k, v'.ownBlock = some k → v.ownBlock = some k ∨ w0.heap.size ≤ k) (hc : c.tv = .slice none 0 0 ∧ c.iv = .slice none 0 0 ∧ c.f.touched = [] ∧ c.f.involved = []) :
    RefC (w2.setCell ⟨q, 0, none⟩ v') q v' (cs ++ [c]) ∧ Step (RFoot q v cs) (RFoot q v' (cs ++ [c])) w0 (w2.setCell ⟨q, 0, none⟩ v') := by
  have hs := setCell_upd w2 q 0 v'
  have hb2 : Blk w2 q 53 #[v] := h.blk.keep hu (fun e => h.own_ne e)
  have hq' : v'.ownBlock ≠ some q := fun e => by
    obtain ⟨cur, hb⟩ := own_blk hrow e
    exact Blk.ne_ hb hb2 (by decide) rfl
  have hk : ∀ {l : List Int} {x : Value}, RowI w0 x l → RowI (w2.setCell ⟨q, 0, none⟩ v') x l := fun hx => by
    have h2 : RowI w2 _ _ := hx.keep hu (fun m hm e => by
      obtain ⟨cur, hb⟩ := own_blk h.row e
      exact hx.ne hb (by decide) hm)
    exact h2.keep hs (fun m hm e => by subst e; exact h2.ne hb2 (by decide) hm)
  refine ⟨⟨by simpa using hb2.set_ 0 v', ?_, fun d hd => ?_⟩, ⟨?_, fun k hk => ?_⟩⟩
  · rw [rowR_snoc, List.length_append]
    exact ownsRow_keep hrow hs (fun k hk e => hq' (by rw [hk, e]))
  · rcases List.mem_append.1 hd with hd | hd
    · exact ⟨hk (h.rows d hd).1, hk (h.rows d hd).2⟩
    · obtain rfl : d = c := by simpa using hd
      rw [hc.1, hc.2.1, hc.2.2.1, hc.2.2.2]
      exact ⟨RowI.nil _, RowI.nil _⟩
  · exact (hu.mono (fun k _ hk => .inr (.inl hk))).setCell (p := ⟨q, 0, none⟩) (fun _ => .inl rfl) v'
  · rcases hk with rfl | hk | ⟨d, hd, hk⟩
    · exact .inl (.inl rfl)
    · exact (hv k hk).imp (fun h => .inr (.inl h)) id
    · rcases List.mem_append.1 hd with hd | hd
      · exact .inl (.inr (.inr ⟨d, hd, hk⟩))
      · obtain rfl : d = c := by simpa using hd
        rw [hc.1, hc.2.1] at hk
        simp [Value.ownBlock] at hk
end
end Go.Proofs.Ytjmidomcgaijjaa
