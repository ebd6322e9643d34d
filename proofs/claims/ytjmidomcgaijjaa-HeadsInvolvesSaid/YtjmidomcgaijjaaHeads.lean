/- The stack's functions that only read it. -/
import Derived.Test.YtjmidomcgaijjaaStk
import Derived.Test.YtjmidomcgaijjaaKit
namespace Go.Proofs.Ytjmidomcgaijjaa
set_option linter.unusedVariables false
open Go.RowKit

theorem Reads.of_own {w : World} {base sz n : Nat} {t : TypeId} {v : Value} {xs : List Value} (h : w.ownsRow base t sz v n xs) : Reads w sz v n xs := by
  obtain ⟨hl, h⟩ := h
  rcases h with ⟨rfl, rfl⟩ | ⟨g, cap, cur, rfl, hb, hg, h1, h2, h3, h4⟩
  · exact ⟨none, 0, rfl, Nat.le_refl _, by simp, fun _ => rfl, hl, fun h => by omega⟩
  · exact ⟨_, _, rfl, h1, h2, by simp, hl, fun _ => ⟨_, rfl, World.ownsRow.cells (base := base) (n := n) (e := t) (size := sz) ⟨hl, .inr ⟨g, cap, cur, rfl, hb, hg, h1, h2, h3, h4⟩⟩ rfl⟩⟩

/-- p leads to a stack: the slice value v of the frames cs -/
structure StkC (w : World) (p : Nat) (v : Value) (cs : List FrC) : Prop where
  blk : Blk w p 78 #[.bool true, v]
  row : w.ownsRow 0 83 5 v cs.length (rowOf cs)
  sets : ∀ c ∈ cs, SetAt w c.mt c.f.touched ∧ SetAt w c.mv c.f.involved
  nodup : (mapsOf cs).Nodup
def Foot (p : Nat) (v : Value) (cs : List FrC) (k : Nat) : Prop := k = p ∨ v.ownBlock = some k ∨ k ∈ mapsOf cs
def frs (cs : List FrC) : List Fr := cs.map (·.f)

section
variable {w : World} {p : Nat} {v : Value} {cs : List FrC}
theorem StkC.c0 (h : StkC w p v cs) : w.cell? ⟨p, 0, none⟩ = some (.bool true) := by rw [h.blk.cell]; rfl
theorem StkC.c1 (h : StkC w p v cs) : w.cell? ⟨p, 1, none⟩ = some v := by rw [h.blk.cell]; rfl
theorem StkC.reads (h : StkC w p v cs) : Reads w 5 v cs.length (rowOf cs) := Reads.of_own h.row
theorem StkC.lt (h : StkC w p v cs) : p < w.heap.size := h.blk.lt
theorem mem_maps {c : FrC} (h : c ∈ cs) : c.mt ∈ mapsOf cs ∧ c.mv ∈ mapsOf cs := by
  unfold mapsOf
  exact ⟨List.mem_flatMap.2 ⟨c, h, by simp⟩, List.mem_flatMap.2 ⟨c, h, by simp⟩⟩
theorem StkC.foot_lt (h : StkC w p v cs) {k : Nat} (hk : Foot p v cs k) : k < w.heap.size := by
  rcases hk with rfl | hk | hk
  · exact h.lt
  · exact (h.row.lt k hk).2
  · obtain ⟨c, hc, hk⟩ := List.mem_flatMap.1 hk
    have := h.sets c hc
    simp at hk
    rcases hk with rfl | rfl
    · exact this.1.lt
    · exact this.2.lt
theorem ownsRow_keep {w' : World} {base sz n : Nat} {t : TypeId} {xs : List Value} {S : Nat → Prop} (h : w.ownsRow base t sz v n xs) (hu : Upd S w w') (hn : ∀ k, v.ownBlock = some k → ¬ S k) : w'.ownsRow base t sz v n xs := by
  obtain ⟨hl, h⟩ := h
  refine ⟨hl, ?_⟩
  rcases h with h | ⟨g, cap, cur, rfl, hb, hg, h1, h2, h3, h4⟩
  · exact .inl h
  · exact .inr ⟨g, cap, cur, rfl, hb, (hu.block g (lt_of_some hg) (hn g rfl)).trans hg, h1, h2, h3, h4⟩
/-- A stack stays what it is while nothing of it is turned. -/
theorem StkC.keep {w' : World} {S : Nat → Prop} (h : StkC w p v cs) (hu : Upd S w w') (hn : ∀ k, Foot p v cs k → ¬ S k) : StkC w' p v cs :=
  ⟨h.blk.keep hu (hn _ (.inl rfl)), ownsRow_keep h.row hu (fun k hk => hn k (.inr (.inl hk))),
    fun c hc => ⟨(h.sets c hc).1.keep hu (hn _ (.inr (.inr (mem_maps hc).1))), (h.sets c hc).2.keep hu (hn _ (.inr (.inr (mem_maps hc).2)))⟩, h.nodup⟩
theorem StkC.ext {w' : World} (h : StkC w p v cs) (hb : Below w.heap.size w w') : StkC w' p v cs := h.keep (S := fun _ => False) (Upd.of_ext hb) (fun _ _ h => h)
end

set_option maxRecDepth 100000 in
set_option maxHeartbeats 400000 in
theorem is_any (p : Nat) (w : World) (h0 : w.cell? ⟨p, 0, none⟩ = some (.bool true)) :
    Calls Try.prog 39 #[.pointer (some ⟨p, 0, none⟩)] w fun e w' => e = .returned (.bool true) ∧ w = w' := by
  go_enter Try.func39, Try.ntmps39
  go_wp2
  go_ret
  exact ⟨rfl, rfl⟩
set_option maxRecDepth 100000 in
set_option maxHeartbeats 400000 in
theorem is_unmade (p : Nat) (w : World) (h0 : w.cell? ⟨p, 0, none⟩ = some (.bool false)) :
    Calls Try.prog 39 #[.pointer (some ⟨p, 0, none⟩)] w fun e w' => e = .returned (.bool false) ∧ w = w' := by
  go_enter Try.func39, Try.ntmps39
  go_wp2
  go_ret
  exact ⟨rfl, rfl⟩
set_option maxRecDepth 100000 in
set_option maxHeartbeats 400000 in
theorem is_nil (w : World) :
    Calls Try.prog 39 #[.pointer none] w fun e w' => e = .returned (.bool false) ∧ w = w' := by
  go_enter Try.func39, Try.ntmps39
  go_wp2
  go_ret
  exact ⟨rfl, rfl⟩

set_option maxRecDepth 100000 in
set_option maxHeartbeats 400000 in
theorem at_any (cs : List FrC) (v : Value) (r pl : Int) (p : Nat) (w : World) (hs : StkC w p v cs) :
    Calls Try.prog 40 #[.pointer (some ⟨p, 0, none⟩), .agg #[.int .i64 r, .int .i64 pl]] w fun e w' => e = .returned (.int .i64 (posOf (isPair r pl) (frs cs))) ∧ Below w.heap.size w w' := by
  have h1 := hs.c1
  have hp := hs.lt
  have hB := (Below.refl w.heap.size w).alloc (Nat.le_refl _) (.cells #[.int .i64 r, .int .i64 pl] 63)
  have hr := (hs.ext hB).reads
  have C := indexFr_any cs v r pl w.heap.size (w.alloc (.cells #[.int .i64 r, .int .i64 pl] 63)) hr (by rw [(Blk.new w _ _).cell]; rfl) (by rw [(Blk.new w _ _).cell]; rfl)
  clear hr hs
  have HB := Lib.hid hB
  have HC := Lib.hid C
  clear hB C
  go_enter Try.func40, Try.ntmps40
  go_wp2_with (first | (go_at_call 59; refine HC.out.mono ?_; rintro e w1 ⟨rfl, hb1⟩))
  go_ret
  exact ⟨rfl, ext_trans HB.out hb1⟩

/-- is a place below that of the one on top? -/
def lowOf (l : List Fr) (pl : Int) : Bool := match l.getLast? with | some f => decide (pl < f.place) | none => false

set_option maxRecDepth 100000 in
set_option maxHeartbeats 400000 in
theorem low_any (cs : List FrC) (v : Value) (pl : Int) (p : Nat) (w : World) (hs : StkC w p v cs) :
    Calls Try.prog 46 #[.pointer (some ⟨p, 0, none⟩), .int .i64 pl] w fun e w' => e = .returned (.bool (lowOf (frs cs) pl)) ∧ w = w' := by
  have h1 := hs.c1
  have hp := hs.lt
  obtain ⟨A, c, rfl, hc, hm, _, hcells⟩ := hs.reads.frame
  unfold maxLen at hm
  rcases List.eq_nil_or_concat cs with rfl | ⟨cs', x, rfl⟩
  · clear hcells hs
    go_enter Try.func46, Try.ntmps46
    go_wp2
    go_ret
    exact ⟨rfl, rfl⟩
  · obtain ⟨b, o, rfl, hbl, hcell⟩ := hcells (by simp)
    have g := hcell cs'.length (by simp)
    have hx : (cs' ++ [x])[cs'.length]'(by simp) = x := by simp
    simp only [List.concat_eq_append] at g h1 hc hs ⊢
    rw [hx] at g
    obtain ⟨g0, g1, g2, g3, g4⟩ := g
    have hl : (cs' ++ [x]).length = cs'.length + 1 := by simp
    rw [hl] at h1 hc
    have hres : lowOf (frs (cs' ++ [x])) pl = decide (pl < x.f.place) := by simp [lowOf, frs]
    have HR := Lib.hid hres
    clear hcells hs hx hl hres hcell
    go_enter Try.func46, Try.ntmps46
    go_wp2
    go_ret
    exact ⟨ret_bool HR.out.symm, rfl⟩
end Go.Proofs.Ytjmidomcgaijjaa
