/- The store in memory: a row of live pairs, and a map of what was found of each; the small functions. -/
import Derived.Test.YtchmlhceidociaaMapK
import Derived.Test.YtchmlhceidociaaTwig
import Derived.Test.YtchmlhceidociaaHeld
import Derived.Deep.RegionHeld3
import Derived.WalkSpells
namespace Go.Proofs.Ytchmlhceidociaa
set_option linter.unusedVariables false
set_option linter.unusedSimpArgs false
open Go.RowKit

theorem pair_key : KeyOf Try.prog 64 enc2 :=
  key2 (i := 3) Try.underlying64 rfl rfl Try.underlying3 rfl rfl (by decide) (by decide) (by kernel_rfl) (fun cs o v w h => by
    have hs : (sizeOf 3).run Try.prog w = .ok 1 w := by kernel_rfl
    unfold part
    simp [go_sem, h])
/-- a row of twigs of the call's own -/
def RowT (w : World) (v : Value) (ts : List Twg) : Prop := w.ownsRow 0 61 5 v ts.length (ts.flatMap Twg.cells)
theorem RowT.twgs {w : World} {v : Value} {ts : List Twg} (h : RowT w v ts) : Twgs w v ts := Reads.of_own h
theorem RowT.keep {w w' : World} {S : Nat → Prop} {v : Value} {ts : List Twg} (h : RowT w v ts) (hu : Upd S w w') (hn : ∀ k, v.ownBlock = some k → ¬ S k) : RowT w' v ts := ownsRow_keep h hu hn
theorem RowT.nil (w : World) : RowT w (.slice none 0 0) [] := World.ownsRow_nil _ _ _ _
theorem RowT.ne {w : World} {v : Value} {ts : List Twg} (h : RowT w v ts) {g : Nat} {t : TypeId} {cur : Array Value} (hb : Blk w g t cur) (ht : t ≠ 61) : v.ownBlock ≠ some g := fun e => by
  obtain ⟨cur', hb'⟩ := own_blk h e
  exact Blk.ne_ hb' hb (Ne.symm ht) rfl
theorem RowT.form {w : World} {v : Value} {ts : List Twg} (h : RowT w v ts) : ∃ A c, v = .slice A ts.length c := ownsRow_form h

/-- a live pair: has: a seed, not a fail -/
structure Pr where
  rule : Int
  place : Int
  has : Bool
  end_ : Int
  level : Int
  tree : List Twg
structure PrC where
  p : Pr
  tv : Value
def PrC.key (c : PrC) : Int × Int := (c.p.rule, c.p.place)
def PrC.val (c : PrC) : Value := .agg #[.bool c.p.has, .int .i64 c.p.end_, .int .i64 c.p.level, c.tv]
def PrC.cells (c : PrC) : List Value := [.int .i64 c.p.rule, .int .i64 c.p.place]
def rowP (cs : List PrC) : List Value := cs.flatMap PrC.cells
def entP (cs : List PrC) : List ((Int × Int) × Value) := cs.map fun c => (c.key, c.val)
def prs (cs : List PrC) : List Pr := cs.map (·.p)
theorem prs_length (cs : List PrC) : (prs cs).length = cs.length := by simp [prs]
theorem rowP_snoc (cs : List PrC) (c : PrC) : rowP (cs ++ [c]) = rowP cs ++ c.cells := by simp [rowP]
theorem entP_snoc (cs : List PrC) (c : PrC) : entP (cs ++ [c]) = entP cs ++ [(c.key, c.val)] := by simp [entP]
theorem prs_snoc (cs : List PrC) (c : PrC) : prs (cs ++ [c]) = prs cs ++ [c.p] := by simp [prs]
theorem rowP_length (cs : List PrC) : (rowP cs).length = cs.length * 2 := by
  induction cs with
  | nil => rfl
  | cons c cs ih =>
    unfold rowP at ih ⊢
    rw [List.flatMap_cons, List.length_append, ih, List.length_cons, Nat.add_mul, Nat.one_mul, Nat.add_comm]
    rfl
theorem rowP_at (cs : List PrC) (k : Nat) (hk : k < cs.length) : (rowP cs)[k * 2]? = some (.int .i64 cs[k].p.rule) ∧ (rowP cs)[k * 2 + 1]? = some (.int .i64 cs[k].p.place) := by
  induction cs generalizing k with
  | nil => simp at hk
  | cons f l ih =>
    have hl : f.cells.length = 2 := rfl
    unfold rowP at ih ⊢
    rw [List.flatMap_cons]
    cases k with
    | zero => exact ⟨rfl, rfl⟩
    | succ k =>
      have h1 := ih k (by simpa using hk)
      have e1 : (k + 1) * 2 - f.cells.length = k * 2 := by omega
      have e2 : (k + 1) * 2 + 1 - f.cells.length = k * 2 + 1 := by omega
      rw [List.getElem?_append_right (by omega), List.getElem?_append_right (by omega), e1, e2]
      exact h1

/-- p leads to the pairs cs, whose row is v, whose map is m -/
structure SdC (w : World) (p : Nat) (v : Value) (m : Nat) (cs : List PrC) : Prop where
  blk : Blk w p 57 #[v, .map (some m)]
  row : w.ownsRow 0 64 2 v cs.length (rowP cs)
  map : MapAt w m enc2 (entP cs)
  trees : ∀ c ∈ cs, RowT w c.tv c.p.tree
  apart : (cs.map PrC.key).Nodup
def SFoot (p : Nat) (v : Value) (m : Nat) (cs : List PrC) (k : Nat) : Prop := k = p ∨ v.ownBlock = some k ∨ k = m ∨ ∃ c ∈ cs, c.tv.ownBlock = some k
/-- without the trees -/
def SCore (p : Nat) (v : Value) (m : Nat) (k : Nat) : Prop := k = p ∨ v.ownBlock = some k ∨ k = m
theorem SCore.foot {p m : Nat} {v : Value} {cs : List PrC} {k : Nat} (h : SCore p v m k) : SFoot p v m cs k := h.elim .inl (fun h => .inr (h.elim .inl (fun h => .inr (.inl h))))
/-- S, without rows of twigs -/
def NT (S : Nat → Prop) (w : World) (k : Nat) : Prop := S k ∧ ∀ cur, ¬ Blk w k 61 cur
section
variable {w : World} {p m : Nat} {v : Value} {cs : List PrC}
theorem SdC.core (h : SdC w p v m cs) {k : Nat} (hk : SCore p v m k) : NT (SFoot p v m cs) w k := by
  refine ⟨hk.foot, fun cur hb => ?_⟩
  rcases hk with rfl | hk | rfl
  · exact Blk.ne_ hb h.blk (by decide) rfl
  · obtain ⟨cur', hb'⟩ := own_blk h.row hk
    exact Blk.ne_ hb hb' (by decide) rfl
  · exact h.map.ne_cells hb rfl
theorem SdC.nt {w' : World} (h : SdC w p v m cs) (hu : Upd (SCore p v m) w w') : Upd (NT (SFoot p v m cs) w) w w' := hu.mono (fun k _ hk => h.core hk)
theorem SdC.c0 (h : SdC w p v m cs) : w.cell? ⟨p, 0, none⟩ = some v := by rw [h.blk.cell]; rfl
theorem SdC.c1 (h : SdC w p v m cs) : w.cell? ⟨p, 1, none⟩ = some (.map (some m)) := by rw [h.blk.cell]; rfl
theorem SdC.foot_lt (h : SdC w p v m cs) {k : Nat} (hk : SFoot p v m cs k) : k < w.heap.size := by
  rcases hk with rfl | hk | rfl | ⟨c, hc, hk⟩
  · exact h.blk.lt
  · exact (h.row.lt k hk).2
  · exact h.map.lt
  · exact ((h.trees c hc).lt k hk).2
theorem SdC.keep {w' : World} {S : Nat → Prop} (h : SdC w p v m cs) (hu : Upd S w w') (hn : ∀ k, SFoot p v m cs k → ¬ S k) : SdC w' p v m cs :=
  ⟨h.blk.keep hu (hn _ (.inl rfl)), ownsRow_keep h.row hu (fun k hk => hn k (.inr (.inl hk))), h.map.keep hu (hn _ (.inr (.inr (.inl rfl)))),
    fun c hc => (h.trees c hc).keep hu (fun k hk => hn k (.inr (.inr (.inr ⟨c, hc, hk⟩)))), h.apart⟩
theorem SdC.ext {w' : World} (h : SdC w p v m cs) (hb : Below w.heap.size w w') : SdC w' p v m cs := h.keep (S := fun _ => False) (Upd.of_ext hb) (fun _ _ h => h)
theorem SdC.own_ne (h : SdC w p v m cs) : v.ownBlock ≠ some p := fun e => by
  obtain ⟨cur, hb⟩ := own_blk h.row e
  exact Blk.ne_ hb h.blk (by decide) rfl
theorem SdC.own_nm (h : SdC w p v m cs) : v.ownBlock ≠ some m := fun e => by
  obtain ⟨cur, hb⟩ := own_blk h.row e
  exact h.map.ne_cells hb rfl
theorem SdC.pm (h : SdC w p v m cs) : p ≠ m := h.map.ne_cells h.blk
theorem SdC.head (h : SdC w p v m cs) (h0 : 0 < cs.length) : ∃ g cap cur, v = .slice (some ⟨g, 0, none⟩) cs.length cap ∧ Blk w g 64 cur ∧ cs.length ≤ cap ∧ cap ≤ maxLen ∧ cur.size = cap * 2 ∧ cur.toList.take (cs.length * 2) = rowP cs := by
  rcases h.row.2 with ⟨_, h1⟩ | ⟨g, cap, cur, e, _, hg, h1, h2, h3, h4⟩
  · omega
  · refine ⟨g, cap, cur, e, hg, h1, h2, h3, ?_⟩
    exact h4
theorem SdC.form (h : SdC w p v m cs) : ∃ A c, v = .slice A cs.length c ∧ cs.length ≤ c ∧ c ≤ maxLen ∧ (A = none → c = 0) ∧
    (0 < cs.length → ∃ g, A = some ⟨g, 0, none⟩ ∧ g < w.heap.size ∧ ∀ k (hk : k < cs.length), w.cell? ⟨g, k * 2, none⟩ = some (.int .i64 cs[k].p.rule) ∧ w.cell? ⟨g, k * 2 + 1, none⟩ = some (.int .i64 cs[k].p.place)) := by
  rcases h.row.2 with ⟨e, h1⟩ | ⟨g, cap, cur, e, hb, hg, h1, h2, h3, h4⟩
  · subst e
    exact ⟨none, 0, by rw [h1], by omega, by simp, fun _ => rfl, fun h => by omega⟩
  · refine ⟨some ⟨g, 0, none⟩, cap, e, h1, h2, by simp, fun hn => ⟨g, rfl, lt_of_some hg, fun k hk => ?_⟩⟩
    have hc := World.ownsRow.cells (g := g) h.row (by rw [e]; rfl)
    have p0 := hc (k * 2) _ (rowP_at cs k hk).1
    have p1 := hc (k * 2 + 1) _ (rowP_at cs k hk).2
    rw [Addr.add_lit, Nat.zero_add] at p0 p1
    exact ⟨p0, p1⟩
end

set_option maxRecDepth 100000 in
set_option maxHeartbeats 400000 in
theorem snew_any (w : World) : Calls Try.prog 6 #[] w fun e w' => ∃ p m, e = .returned (.pointer (some ⟨p, 0, none⟩)) ∧ SdC w' p (.slice none 0 0) m [] ∧ w.heap.size ≤ p ∧ w.heap.size ≤ m ∧ Below w.heap.size w w' := by
  have hmm := @run_makeMap Try.prog
  go_enter Try.func6, Try.ntmps6
  go_wp2
  go_ret
  refine ⟨w.heap.size + 1, w.heap.size, rfl, ⟨?_, World.ownsRow_nil _ _ _ _, ?_, by simp, by simp⟩, by omega, by omega, ?_⟩
  · have := Blk.new (w.alloc (.map #[] 0)) 57 #[.slice none 0 0, .map (some w.heap.size)]
    simpa using this
  · exact (MapAt.new w enc2).ext ((ext_refl _).alloc (Nat.le_refl _) _)
  · exact ((ext_refl w).alloc (Nat.le_refl _) _).alloc (by simp) _

set_option maxRecDepth 100000 in
set_option maxHeartbeats 400000 in
theorem made_any (p m : Nat) (w : World) (h1 : w.cell? ⟨p, 1, none⟩ = some (.map (some m))) (hp : p < w.heap.size) : Calls Try.prog 21 #[.pointer (some ⟨p, 0, none⟩)] w fun e w' => e = .returned (.bool true) ∧ w = w' := by
  have hnil := run_neq_map_nil (P := Try.prog) w 52 _ _ (some m) Try.underlying52
  go_enter Try.func21, Try.ntmps21
  go_wp2
  go_ret
  exact ⟨rfl, rfl⟩
end Go.Proofs.Ytchmlhceidociaa
