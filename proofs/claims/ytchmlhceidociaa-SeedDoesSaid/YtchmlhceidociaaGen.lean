/- Words for memory, of no chapter: rows of numbers, what was turned, places in a list. -/
import Derived.Test.YtchmlhceidociaaApp
import Derived.Laws.OwnMore
import Derived.Deep.AppendLies
import Derived.Lib.Hide
namespace Go.Proofs.Ytchmlhceidociaa
set_option linter.unusedVariables false
set_option linter.unusedSimpArgs false
open Go.RowKit

/-- the slice value v holds the numbers l -/
def Ints (w : World) (v : Value) (l : List Int) : Prop := Reads w 1 v l.length (l.map (Value.int .i64))
theorem Reads.of_cells {w w' : World} {sz n : Nat} {v : Value} {xs : List Value} (h : Reads w sz v n xs) (hk : ∀ (p : Addr) u, w.cell? p = some u → w'.cell? p = some u) : Reads w' sz v n xs := by
  obtain ⟨A, c, rfl, h1, h2, h0, h3, h4⟩ := h
  exact ⟨A, c, rfl, h1, h2, h0, h3, fun hn => by obtain ⟨ad, e, hc⟩ := h4 hn; exact ⟨ad, e, fun j u hu => hk _ _ (hc j u hu)⟩⟩
theorem cell_keep_map {w w' : World} {m : Nat} {es : Array MapEntry} {c : Nat} (hm : w.heap[m]? = some (.map es c)) (hu : Upd (· = m) w w') (p : Addr) (u : Value) (h : w.cell? p = some u) : w'.cell? p = some u := by
  have hlt : p.block < w.heap.size := World.block_lt_of_cell? w p h
  rw [hu.cell hlt]
  · exact h
  · intro e
    unfold World.cell? at h
    rw [e, hm] at h
    cases h
theorem Ints.form {w : World} {v : Value} {l : List Int} (h : Ints w v l) : ∃ A c, v = .slice A l.length c ∧ l.length ≤ c ∧ c ≤ maxLen ∧ (A = none → c = 0) ∧ (0 < l.length → ∃ b o, A = some ⟨b, o, none⟩ ∧ ∀ j, j < l.length → w.cell? ⟨b, o + j, none⟩ = some (.int .i64 (l.getD j 0))) := by
  obtain ⟨A, c, rfl, h1, h2, h0', h3, h4⟩ := h
  refine ⟨A, c, rfl, h1, h2, h0', fun hn => ?_⟩
  obtain ⟨⟨b, o, s⟩, rfl, hc⟩ := h4 hn
  have h0 := hc 0 (.int .i64 (l.getD 0 0)) (by simp [List.getD, hn])
  have hs : s = none := by simpa [Addr.add] using World.cell?_spot h0
  subst hs
  refine ⟨b, o, rfl, fun j hj => ?_⟩
  have := hc j (.int .i64 (l.getD j 0)) (by simp [List.getD, hj])
  rwa [Addr.add_lit] at this
theorem Reads.of_own {w : World} {base sz n : Nat} {t : TypeId} {v : Value} {xs : List Value} (h : w.ownsRow base t sz v n xs) : Reads w sz v n xs := by
  obtain ⟨hl, h⟩ := h
  rcases h with ⟨rfl, rfl⟩ | ⟨g, cap, cur, rfl, hb, hg, h1, h2, h3, h4⟩
  · exact ⟨none, 0, rfl, Nat.le_refl _, by simp, fun _ => rfl, hl, fun h => by omega⟩
  · exact ⟨_, _, rfl, h1, h2, by simp, hl, fun _ => ⟨_, rfl, World.ownsRow.cells (base := base) (n := n) (e := t) (size := sz) ⟨hl, .inr ⟨g, cap, cur, rfl, hb, hg, h1, h2, h3, h4⟩⟩ rfl⟩⟩
theorem ownsRow_keep {w w' : World} {v : Value} {base sz n : Nat} {t : TypeId} {xs : List Value} {S : Nat → Prop} (h : w.ownsRow base t sz v n xs) (hu : Upd S w w') (hn : ∀ k, v.ownBlock = some k → ¬ S k) : w'.ownsRow base t sz v n xs := by
  obtain ⟨hl, h⟩ := h
  refine ⟨hl, ?_⟩
  rcases h with h | ⟨g, cap, cur, rfl, hb, hg, h1, h2, h3, h4⟩
  · exact .inl h
  · exact .inr ⟨g, cap, cur, rfl, hb, (hu.block g (lt_of_some hg) (hn g rfl)).trans hg, h1, h2, h3, h4⟩
theorem own_blk {w : World} {base sz n k : Nat} {t : TypeId} {v : Value} {xs : List Value} (h : w.ownsRow base t sz v n xs) (hk : v.ownBlock = some k) : ∃ cs, Blk w k t cs := by
  rcases h.2 with ⟨rfl, _⟩ | ⟨g, cap, cur, rfl, hb, hg, _⟩
  · simp [Value.ownBlock] at hk
  · have : g = k := by simpa [Value.ownBlock] using hk
    subst this
    exact ⟨_, hg⟩
theorem cells_newA (W : World) (t : TypeId) (xs : List Value) (b : Nat) (hb : b = W.heap.size) :
    ∀ a, some (⟨b, 0, none⟩ : Addr) = some a → ∀ j u, xs[j]? = some u → (W.alloc (.cells xs.toArray t)).cell? (a.add j) = some u := by
  rintro a ⟨⟩ j u hu
  subst hb
  rw [Addr.add_lit, Nat.zero_add, (Blk.new W t xs.toArray).cell]
  simpa using hu
theorem setCell_upd (w : World) (g i : Nat) (v : Value) : Upd (· = g) w (w.setCell ⟨g, i, none⟩ v) := (Upd.refl (· = g) _).setCell (p := ⟨g, i, none⟩) (fun _ => rfl) v
theorem drew_ext {w w' : World} (h : ∃ n, w' = w.drewN n) : Below w.heap.size w w' := by
  obtain ⟨n, rfl⟩ := h
  exact ⟨rfl, rfl, rfl, Nat.le_refl _, fun _ _ => rfl⟩
theorem map_ne_cells {w : World} {a b : Nat} {t : TypeId} {cs : Array Value} {z : Nat × Nat} {es : Array MapEntry} {k : Nat} (ha : w.heap[a]? = some (.cells cs t z)) (hb : w.heap[b]? = some (.map es k)) : a ≠ b := by
  rintro rfl; rw [ha] at hb; cases hb
theorem Ints.of_cells {w w' : World} {v : Value} {l : List Int} (h : Ints w v l) (hk : ∀ (p : Addr) u, w.cell? p = some u → w'.cell? p = some u) : Ints w' v l := Reads.of_cells h hk
/-- from w to w' only what lies in S was turned; T is of S or new -/
structure Step (S T : Nat → Prop) (w w' : World) : Prop where
  upd : Upd S w w'
  sub : ∀ k, T k → S k ∨ w.heap.size ≤ k
theorem Step.refl (S : Nat → Prop) (w : World) : Step S S w w := ⟨Upd.refl _ _, fun _ h => .inl h⟩
theorem Step.ext {S : Nat → Prop} {w w' : World} (h : Below w.heap.size w w') : Step S S w w' := ⟨Upd.of_ext h, fun _ h => .inl h⟩
theorem Step.trans {S T U : Nat → Prop} {a b c : World} (h : Step S T a b) (k : Step T U b c) : Step S U a c :=
  ⟨h.upd.trans' k.upd (fun i hi ht => (h.sub i ht).resolve_right (by omega)), fun i hi => by
    rcases k.sub i hi with h1 | h1
    · exact h.sub i h1
    · exact .inr (Nat.le_trans h.upd.size h1)⟩
theorem Step.far {S T : Nat → Prop} {w w' : World} (h : Step S T w w') {b : Nat} (hb : b < w.heap.size) (hn : ¬ S b) : ¬ T b := fun ht => (h.sub b ht).elim hn (by omega)
theorem Step.mono {S S' T : Nat → Prop} {w w' : World} (h : Step S T w w') (hs : ∀ k, S k → S' k) : Step S' T w w' := ⟨h.upd.mono (fun k _ hk => hs k hk), fun k hk => (h.sub k hk).imp (hs k) id⟩
/-- a block apart from S; a row of numbers apart from S -/
def Cel (S : Nat → Prop) (w : World) (b : Nat) (t : TypeId) (cs : Array Value) : Prop := Blk w b t cs ∧ ¬ S b
theorem Cel.step {S T : Nat → Prop} {w w' : World} {b : Nat} {t : TypeId} {cs : Array Value} (h : Cel S w b t cs) (st : Step S T w w') : Cel T w' b t cs :=
  ⟨h.1.keep st.upd h.2, st.far h.1.lt h.2⟩
/-- all since w0 is new: what was there stays -/
def Car (w0 : World) (S : Nat → Prop) (w : World) : Prop := Below w0.heap.size w0 w ∧ ∀ k, S k → w0.heap.size ≤ k
theorem Car.step {w0 w w' : World} {S T : Nat → Prop} (h : Car w0 S w) (st : Step S T w w') : Car w0 T w' :=
  ⟨h.1.trans (st.upd.below h.1.size (fun k hk hs => by have := h.2 k hs; omega)), fun k hk => by
    rcases st.sub k hk with h1 | h1
    · exact h.2 k h1
    · exact Nat.le_trans h.1.size h1⟩
theorem Car.side {w0 w w' : World} {F S : Nat → Prop} (h : Car w0 F w) (hu : Upd S w w') (hS : ∀ k, S k → w0.heap.size ≤ k) : Car w0 F w' :=
  ⟨h.1.trans (hu.below h.1.size (fun k hk hs => by have := hS k hs; omega)), h.2⟩
theorem ownsRow_cast {w : World} {b sz n n' : Nat} {t : TypeId} {v : Value} {xs xs' : List Value} (h : w.ownsRow b t sz v n xs) (hn : n = n') (hx : xs = xs') : w.ownsRow b t sz v n' xs' := by subst hn hx; exact h
/-- a row of numbers of the call's own -/
def RowI (w : World) (v : Value) (l : List Int) : Prop := w.ownsRow 0 3 1 v l.length (l.map (Value.int .i64)) ∧ (l = [] → v = .slice none 0 0)
theorem RowI.nil (w : World) : RowI w (.slice none 0 0) [] := ⟨World.ownsRow_nil _ _ _ _, fun _ => rfl⟩
theorem RowI.ints {w : World} {v : Value} {l : List Int} (h : RowI w v l) : Ints w v l := Reads.of_own h.1
theorem RowI.keep {w w' : World} {S : Nat → Prop} {v : Value} {l : List Int} (h : RowI w v l) (hu : Upd S w w') (hn : ∀ k, v.ownBlock = some k → ¬ S k) : RowI w' v l := ⟨ownsRow_keep h.1 hu hn, h.2⟩
def i64 (x : Int) : Prop := -9223372036854775808 ≤ x ∧ x ≤ 9223372036854775807
/-- where the first is of which q holds; -1: of none -/
def posOf {α : Type} (q : α → Bool) (l : List α) : Int := match l.findIdx? q with | some i => (i : Int) | none => -1
theorem posOf_hit {α : Type} {q : α → Bool} {l : List α} {k : Nat} (hk : k < l.length) (h : q l[k] = true) (hb : ∀ j (hj : j < k), q (l[j]'(by omega)) = false) : posOf q l = k := by
  have : l.findIdx? q = some k := by
    rw [List.findIdx?_eq_some_iff_getElem]
    exact ⟨hk, h, fun j hj => by simp [hb j hj]⟩
  simp [posOf, this]
theorem posOf_none {α : Type} {q : α → Bool} {l : List α} (hb : ∀ j (hj : j < l.length), q l[j] = false) : posOf q l = -1 := by
  have : l.findIdx? q = none := by
    rw [List.findIdx?_eq_none_iff]
    intro x hx
    obtain ⟨j, hj, rfl⟩ := List.getElem_of_mem hx
    exact hb j hj
  simp [posOf, this]
theorem posOf_map {α β : Type} {q : β → Bool} (f : α → β) (l : List α) : posOf q (l.map f) = posOf (fun x => q (f x)) l := by
  simp [posOf, List.findIdx?_map]; rfl
theorem posOf_ge {α : Type} (q : α → Bool) (l : List α) : decide (0 ≤ posOf q l) = l.any q := by
  unfold posOf
  cases h : l.findIdx? q with
  | none =>
    have : l.any q = false := by
      rw [List.any_eq_false]
      intro x hx
      have := (List.findIdx?_eq_none_iff.1 h) x hx
      simp [this]
    rw [this]; rfl
  | some i =>
    have : l.any q = true := by
      obtain ⟨hi, h1, _⟩ := List.findIdx?_eq_some_iff_getElem.1 h
      exact List.any_eq_true.2 ⟨_, List.getElem_mem hi, h1⟩
    rw [this]
    simp
/-- g done to the first k -/
def mapTo {α : Type} (g : α → α) (k : Nat) (l : List α) : List α := (l.take k).map g ++ l.drop k
theorem mapTo_zero {α : Type} (g : α → α) (l : List α) : mapTo g 0 l = l := by simp [mapTo]
theorem mapTo_all {α : Type} (g : α → α) (l : List α) : mapTo g l.length l = l.map g := by simp [mapTo]
theorem mapTo_length {α : Type} (g : α → α) (k : Nat) (l : List α) : (mapTo g k l).length = l.length := by
  simp [mapTo]; omega
theorem mapTo_at {α : Type} (g : α → α) (k : Nat) (l : List α) (h : k < l.length) : (mapTo g k l)[k]'(by rw [mapTo_length]; exact h) = l[k] := by
  unfold mapTo
  rw [List.getElem_append_right (by simp; omega)]
  simp [Nat.min_eq_left (Nat.le_of_lt h)]
theorem mapTo_succ {α : Type} (g : α → α) (k : Nat) (l : List α) (h : k < l.length) : mapTo g (k + 1) l = (mapTo g k l).set k (g l[k]) := by
  unfold mapTo
  rw [List.set_append_right _ _ (by simp; omega), List.take_succ_eq_append_getElem h, List.map_append, List.append_assoc]
  congr 1
  have : (k - (List.map g (List.take k l)).length) = 0 := by simp; omega
  rw [this, List.drop_eq_getElem_cons h]
  rfl
end Go.Proofs.Ytchmlhceidociaa
