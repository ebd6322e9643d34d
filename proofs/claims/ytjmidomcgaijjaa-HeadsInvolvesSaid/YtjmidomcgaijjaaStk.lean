/- The stack of activations as it lies in memory, and where a pair stands in it. -/
import Derived.Test.YtjmidomcgaijjaaWalk1
namespace Go.Proofs.Ytjmidomcgaijjaa
set_option linter.unusedVariables false
open Go.RowKit

/-- an activation -/
structure Fr where
  rule : Int
  place : Int
  touched : List Int
  involved : List Int
  tainted : Bool
/-- .. with the blocks of its two sets -/
structure FrC where
  f : Fr
  mt : Nat
  mv : Nat
def FrC.cells (c : FrC) : List Value := [.int .i64 c.f.rule, .int .i64 c.f.place, .map (some c.mt), .map (some c.mv), .bool c.f.tainted]
def rowOf (cs : List FrC) : List Value := cs.flatMap FrC.cells
theorem rowOf_length (cs : List FrC) : (rowOf cs).length = cs.length * 5 := by
  induction cs with
  | nil => rfl
  | cons c cs ih =>
    unfold rowOf at ih ⊢
    rw [List.flatMap_cons, List.length_append, ih, List.length_cons, Nat.add_mul, Nat.one_mul, Nat.add_comm]
    rfl
theorem rowOf_at (cs : List FrC) (i : Nat) (h : i < cs.length) (j : Nat) (hj : j < 5) : (rowOf cs)[i * 5 + j]? = (cs[i]).cells[j]? := by
  induction cs generalizing i with
  | nil => simp at h
  | cons c cs ih =>
    have hl : c.cells.length = 5 := rfl
    unfold rowOf at ih ⊢
    rw [List.flatMap_cons]
    cases i with
    | zero => rw [List.getElem?_append_left (by omega)]; simp
    | succ i =>
      rw [List.getElem?_append_right (by omega), show (i + 1) * 5 + j - c.cells.length = i * 5 + j by omega]
      exact ih i (by simpa using h)
theorem rowOf_snoc (cs : List FrC) (c : FrC) : rowOf (cs ++ [c]) = rowOf cs ++ c.cells := by simp [rowOf]
def mapsOf (cs : List FrC) : List Nat := cs.flatMap fun c => [c.mt, c.mv]

/-- where the first is of which q holds; -1: of none -/
def posOf {α : Type} (q : α → Bool) (l : List α) : Int := match l.findIdx? q with | some i => (i : Int) | none => -1
theorem posOf_hit {α : Type} {q : α → Bool} {l : List α} {k : Nat} (hk : k < l.length) (h : q l[k] = true) (hb : ∀ j (hj : j < k), q (l[j]'(by omega)) = false) : posOf q l = k := by
  have : l.findIdx? q = some k := by
    rw [List.findIdx?_eq_some_iff_getElem]
    exact ⟨hk, h, fun j hj => by simp [hb j hj]⟩
  simp [posOf, this]
theorem posOf_none {α : Type} {q : α → Bool} {l : List α} (hb : ∀ j (hj : j < l.length), q l[j] = false) : posOf q l = -1 := by
  have : l.findIdx? q = none := by
    rw [List.findIdx?_eq_none_iff]
    intro x hx
    obtain ⟨j, hj, rfl⟩ := List.getElem_of_mem hx
    exact hb j hj
  simp [posOf, this]
theorem posOf_map {α β : Type} {q : β → Bool} (f : α → β) (l : List α) : posOf q (l.map f) = posOf (fun x => q (f x)) l := by
  simp [posOf, List.findIdx?_map]; rfl

/-- is it that pair? -/
def isPair (r p : Int) (f : Fr) : Bool := f.rule == r && f.place == p

/-- the five cells of an activation, from place o of block b on -/
def FrCells (w : World) (b o : Nat) (e : FrC) : Prop :=
  w.cell? ⟨b, o, none⟩ = some (.int .i64 e.f.rule) ∧ w.cell? ⟨b, o + 1, none⟩ = some (.int .i64 e.f.place) ∧ w.cell? ⟨b, o + 2, none⟩ = some (.map (some e.mt)) ∧
    w.cell? ⟨b, o + 3, none⟩ = some (.map (some e.mv)) ∧ w.cell? ⟨b, o + 4, none⟩ = some (.bool e.f.tainted)
theorem FrCells.keep {w w' : World} {b o : Nat} {e : FrC} (h : FrCells w b o e) (hb : ∀ j, w'.cell? ⟨b, j, none⟩ = w.cell? ⟨b, j, none⟩) : FrCells w' b o e := by
  unfold FrCells at h ⊢
  simp only [hb]
  exact h
/-- the cells of element k of a row of frames -/
theorem Reads.frame {w : World} {v : Value} {cs : List FrC} (h : Reads w 5 v cs.length (rowOf cs)) : ∃ A c, v = .slice A cs.length c ∧ cs.length ≤ c ∧ c ≤ maxLen ∧ (A = none → c = 0) ∧
    (0 < cs.length → ∃ b o, A = some ⟨b, o, none⟩ ∧ b < w.heap.size ∧ ∀ k (hk : k < cs.length), FrCells w b (o + k * 5) cs[k]) := by
  obtain ⟨A, c, rfl, h1, h2, h0', h3, h4⟩ := h
  refine ⟨A, c, rfl, h1, h2, h0', fun hn => ?_⟩
  obtain ⟨⟨b, o, s⟩, rfl, hc⟩ := h4 hn
  have hat : ∀ k (hk : k < cs.length) j (hj : j < 5), (rowOf cs)[k * 5 + j]? = some ((cs[k]).cells[j]'hj) := by
    intro k hk j hj
    rw [rowOf_at cs k hk j hj]
    exact List.getElem?_eq_getElem hj
  have h0 := hc _ _ (hat 0 hn 0 (by omega))
  have hs : s = none := by simpa [Addr.add] using World.cell?_spot h0
  subst hs
  refine ⟨b, o, rfl, World.block_lt_of_cell? w _ (by simpa [Addr.add] using h0), fun k hk => ?_⟩
  have g : ∀ j (hj : j < 5), w.cell? ⟨b, o + k * 5 + j, none⟩ = some ((cs[k]).cells[j]'hj) := by
    intro j hj
    have := hc _ _ (hat k hk j hj)
    rwa [Addr.add_lit, ← Nat.add_assoc] at this
  exact ⟨g 0 (by omega), g 1 (by omega), g 2 (by omega), g 3 (by omega), g 4 (by omega)⟩

set_option maxRecDepth 100000 in
set_option maxHeartbeats 400000 in
theorem at1_any (r p r2 p2 : Int) (m1 m2 : Value) (tb : Bool) (b : Nat) (w : World) (h0 : w.cell? ⟨b, 0, none⟩ = some (.int .i64 r2)) (h1 : w.cell? ⟨b, 1, none⟩ = some (.int .i64 p2)) :
    Calls Try.prog 60 #[.agg #[.int .i64 r, .int .i64 p, m1, m2, .bool tb], .pointer (some ⟨b, 0, none⟩)] w fun e w' => e = .returned (.bool (r == r2 && p == p2)) ∧ Below w.heap.size w w' := by
  have hb : b < w.heap.size := World.block_lt_of_cell? w _ h0
  have HB := (Below.refl w.heap.size w).alloc (Nat.le_refl _) (Obj.cells #[Value.int IntKind.i64 r, Value.int IntKind.i64 p, m1, m2, Value.bool tb] 83)
  by_cases hr : r = r2
  · subst hr
    by_cases hp : p = p2
    · subst hp
      go_enter Try.func60, Try.ntmps60
      go_wp2
      go_ret
      exact ⟨by simp, HB⟩
    · have hp' : (p == p2) = false := by simp [hp]
      go_enter Try.func60, Try.ntmps60
      go_wp2
      go_ret
      exact ⟨by simp [hp], HB⟩
  · have hr' : (r == r2) = false := by simp [hr]
    go_enter Try.func60, Try.ntmps60
    go_wp2
    go_ret
    exact ⟨by simp [hr], HB⟩

set_option maxRecDepth 100000 in
set_option maxHeartbeats 400000 in
theorem indexFr_any (cs : List FrC) (v : Value) (r p : Int) (pb : Nat) (w : World) (hv : Reads w 5 v cs.length (rowOf cs)) (h0 : w.cell? ⟨pb, 0, none⟩ = some (.int .i64 r)) (h1 : w.cell? ⟨pb, 1, none⟩ = some (.int .i64 p)) :
    Calls Try.prog 59 #[v, .func (.func 60) #[] #[.pointer (some ⟨pb, 0, none⟩)]] w fun e w' => e = .returned (.int .i64 (posOf (isPair r p) (cs.map (·.f)))) ∧ Below w.heap.size w w' := by
  obtain ⟨A, c, rfl, hc, hm, _, hcells⟩ := hv.frame
  unfold maxLen at hm
  have hpb : pb < w.heap.size := World.block_lt_of_cell? w _ h0
  go_enter Try.func59, Try.ntmps59
  go_wp2
  go_loopw [8] (fun i wr => ∃ k : Nat, k ≤ cs.length ∧ i = .int .i64 k ∧ Below w.heap.size w wr ∧ ∀ j (hj : j < k) (hl : j < cs.length), isPair r p (cs[j]).f = false) (fun i _ => cs.length - (intOf i).toNat)
  case atStart => exact ⟨0, Nat.zero_le _, rfl, Below.refl _ _, fun _ h => by omega⟩
  case round =>
    obtain ⟨k, hk, rfl, hB, hno⟩ := hrel
    by_cases hlt : k < cs.length
    · obtain ⟨b, o, rfl, hbl, hcell⟩ := hcells (by omega)
      obtain ⟨g0, g1, g2, g3, g4⟩ := (hcell k hlt).keep (w' := wr) (fun j => hB.cell (p := ⟨b, j, none⟩) hbl)
      have e0 : wr.cell? ⟨pb, 0, none⟩ = some (.int .i64 r) := (hB.cell (p := ⟨pb, 0, none⟩) hpb).trans h0
      have e1 : wr.cell? ⟨pb, 1, none⟩ = some (.int .i64 p) := (hB.cell (p := ⟨pb, 1, none⟩) hpb).trans h1
      have C := at1_any cs[k].f.rule cs[k].f.place r p (.map (some cs[k].mt)) (.map (some cs[k].mv)) cs[k].f.tainted pb wr e0 e1
      have hz : w.heap.size ≤ wr.heap.size := hB.size
      generalize hq : isPair r p cs[k].f = q
      rw [show (cs[k].f.rule == r && cs[k].f.place == p) = q from hq] at C
      have HQ := Lib.hid hq
      clear hq hcell hcells hv h0 h1 e0 e1
      generalize hek : cs[k] = ek at *
      cases q
      · go_wp2_with (go_at_call 60; refine C.mono ?_; rintro e w1 ⟨rfl, hB1⟩)
        go_roundw
        case rel =>
          refine ⟨k + 1, by omega, by go_num, hB.trans (hB1.mono hz), fun j hj hl => ?_⟩
          by_cases hjk : j = k
          · subst hjk; rw [hek]; exact HQ.out
          · exact hno j (by omega) hl
        case measure => simp [intOf]; omega
      · go_wp2_with (go_at_call 60; refine C.mono ?_; rintro e w1 ⟨rfl, hB1⟩)
        go_ret
        exact ⟨ret_int (posOf_hit (k := k) (by simpa using hlt) (by simpa [hek] using HQ.out) (fun j hj => by simpa using hno j hj (by omega))).symm, hB.trans (hB1.mono hz)⟩
    · obtain rfl : k = cs.length := by omega
      go_wp2
      go_ret
      exact ⟨ret_int (posOf_none (fun j hj => by simpa using hno j (by simpa using hj) (by simpa using hj))).symm, hB⟩
end Go.Proofs.Ytjmidomcgaijjaa
