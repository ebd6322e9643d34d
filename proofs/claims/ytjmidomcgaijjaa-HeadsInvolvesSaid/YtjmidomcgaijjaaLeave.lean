/- Leaving: the one on top is taken away. -/
import Derived.Test.YtjmidomcgaijjaaMore
import Derived.Deep.RegionHeld3
namespace Go.Proofs.Ytjmidomcgaijjaa
set_option linter.unusedVariables false
open Go.RowKit

set_option maxRecDepth 100000 in
set_option maxHeartbeats 800000 in
theorem leave_none (v : Value) (p : Nat) (w : World) (hs : StkC w p v []) :
    Calls Try.prog 27 #[.pointer (some ⟨p, 0, none⟩)] w fun e w' => e = .returned (.tuple #[.agg #[.int .i64 0, .int .i64 0, .slice none 0 0, .bool false], .int .i64 5]) ∧ Below w.heap.size w w' := by
  have hp := hs.lt
  have h1 := hs.c1
  have HI := Lib.hid (fun o => is_any p (w.alloc o) ((hs.ext ((ext_refl w).alloc (Nat.le_refl _) o)).c0))
  obtain ⟨A, c, rfl⟩ := ownsRow_form hs.row
  have h1' : w.cell? ⟨p, 1, none⟩ = some (.slice A 0 c) := h1
  clear hs h1
  go_enter Try.func27, Try.ntmps27
  go_wp2_with (first
    | (go_at_call 39; refine (HI.out _).mono ?_; rintro e w1 ⟨rfl, rfl⟩))
  refine bodyPost_ret (v := .tuple #[.agg #[.int .i64 0, .int .i64 0, .slice none 0 0, .bool false], .int .i64 5]) (by simp [results, Try.results27, go_sem]) rfl ⟨rfl, (ext_refl w).alloc (Nat.le_refl _) _⟩

set_option maxRecDepth 100000 in
set_option maxHeartbeats 800000 in
theorem leave_ok (cs : List FrC) (c : FrC) (v : Value) (p : Nat) (w : World) (hs : StkC w p v (cs ++ [c])) (hi : ∀ x ∈ c.f.touched, i64 x) (hn : c.f.touched.length ≤ 1000000) :
    Calls Try.prog 27 #[.pointer (some ⟨p, 0, none⟩)] w fun e w' => ∃ u v', e = .returned (.tuple #[.agg #[.int .i64 c.f.rule, .int .i64 c.f.place, u, .bool c.f.tainted], .int .i64 0]) ∧
      w'.ownsRow w.heap.size 3 1 u c.f.touched.length (c.f.touched.map (Value.int .i64)) ∧ StkC w' p v' cs ∧ Upd (· = p) w w' ∧ ∀ k, Foot p v' cs k → Foot p v (cs ++ [c]) k := by
  have hp := hs.lt
  have h1 := hs.c1
  have HI := Lib.hid (fun o => is_any p (w.alloc o) ((hs.ext ((ext_refl w).alloc (Nat.le_refl _) o)).c0))
  have hfz : w.frozen? ⟨p, 1, none⟩ = false := hs.blk.frozen 1
  obtain ⟨g, cap, cur, rfl, hg, hc, hm, hcs, htk, hgl, hgp, hgm⟩ := hs.head (by simp)
  have hl : (cs ++ [c]).length = cs.length + 1 := by simp
  obtain ⟨g0, g1, g2, g3, g4⟩ := hs.cells0 rfl (k := cs.length) (by simp)
  have hx : (cs ++ [c])[cs.length]'(by simp) = c := by simp
  rw [hx] at g0 g1 g2 g3 g4
  rw [hl] at h1 hc
  unfold maxLen at hm
  have HS := Lib.hid hs
  have HX := Lib.hid (And.intro hg (And.intro hcs htk))
  clear hs hx hg hcs htk hgm hgp hl
  go_enter Try.func27, Try.ntmps27
  go_wp2_with (first
    | (go_at_call 39; refine (HI.out _).mono ?_; rintro e w1 ⟨rfl, rfl⟩))
  have hS1 : StkC (w.setCell ⟨p, 1, none⟩ (.slice (some ⟨g, 0, none⟩) cs.length cap)) p (.slice (some ⟨g, 0, none⟩) cs.length cap) cs := by
    have hs := HS.out
    have hu := setCell_upd w p 1 (.slice (some ⟨g, 0, none⟩) cs.length cap)
    have hne : ∀ k, k ∈ mapsOf (cs ++ [c]) → k = p → False := fun k h e => by
      obtain ⟨d, hd, hk⟩ := List.mem_flatMap.1 h
      have hss := hs.sets d hd
      simp at hk
      rcases hk with rfl | rfl
      · obtain ⟨_, _, e', _⟩ := hss.1; exact map_ne_cells hs.blk e' e.symm
      · obtain ⟨_, _, e', _⟩ := hss.2; exact map_ne_cells hs.blk e' e.symm
    have hgp : g ≠ p := fun e => Blk.ne_ (t := 83) HX.out.1 hs.blk (by decide) e
    refine ⟨by simpa using hs.blk.set_ 1 (.slice (some ⟨g, 0, none⟩) cs.length cap), ?_, ?_, ?_⟩
    · refine ⟨rowOf_length cs, .inr ⟨g, cap, cur, rfl, Nat.zero_le _, (Below.heap_setCell _ _ _ _ hgp).trans HX.out.1, by omega, by unfold maxLen; exact hm, HX.out.2.1, ?_⟩⟩
      have := HX.out.2.2
      rw [rowOf_snoc, List.length_append, List.length_singleton] at this
      have h2 := congrArg (List.take (cs.length * 5)) this
      rw [List.take_take, Nat.min_eq_left (by omega), List.take_left' (rowOf_length cs)] at h2
      exact h2
    · intro d hd
      have hm' : d ∈ cs ++ [c] := List.mem_append_left _ hd
      exact ⟨(hs.sets d hm').1.keep hu (fun e => hne _ (mem_maps hm').1 e), (hs.sets d hm').2.keep hu (fun e => hne _ (mem_maps hm').2 e)⟩
    · have := hs.nodup
      unfold mapsOf at this ⊢
      rw [List.flatMap_append, List.nodup_append] at this
      exact this.1
  have hT : SetAt (w.setCell ⟨p, 1, none⟩ (.slice (some ⟨g, 0, none⟩) cs.length cap)) c.mt c.f.touched := by
    have hs := HS.out
    have hm' : c ∈ cs ++ [c] := by simp
    refine (hs.sets c hm').1.keep (setCell_upd w p 1 _) (fun e => ?_)
    obtain ⟨_, _, e', _⟩ := (hs.sets c hm').1
    exact map_ne_cells hs.blk e' e.symm
  have hU : Upd (· = p) w (w.setCell ⟨p, 1, none⟩ (.slice (some ⟨g, 0, none⟩) cs.length cap)) := setCell_upd w p 1 _
  have hz1 : (w.setCell ⟨p, 1, none⟩ (.slice (some ⟨g, 0, none⟩) cs.length cap)).heap.size = w.heap.size := by simp [World.setCell]
  generalize hw1 : w.setCell ⟨p, 1, none⟩ (.slice (some ⟨g, 0, none⟩) cs.length cap) = w1 at *
  have b1 : Blk ((w1.alloc (.cells #[.int .i64 0, .int .i64 0, .slice none 0 0, .bool false] 65)).alloc (.cells #[.int .i64 c.f.rule, .int .i64 c.f.place, .map (some c.mt), .map (some c.mv), .bool c.f.tainted] 83)) w.heap.size 65 #[.int .i64 0, .int .i64 0, .slice none 0 0, .bool false] := by
    rw [← hz1]; exact (Blk.new w1 _ _).alloc _
  have b2 : Blk ((w1.alloc (.cells #[.int .i64 0, .int .i64 0, .slice none 0 0, .bool false] 65)).alloc (.cells #[.int .i64 c.f.rule, .int .i64 c.f.place, .map (some c.mt), .map (some c.mv), .bool c.f.tainted] 83)) (w.heap.size + 1) 83 #[.int .i64 c.f.rule, .int .i64 c.f.place, .map (some c.mt), .map (some c.mv), .bool c.f.tainted] := by
    have := Blk.new (w1.alloc (.cells #[.int .i64 0, .int .i64 0, .slice none 0 0, .bool false] 65)) 83 #[.int .i64 c.f.rule, .int .i64 c.f.place, .map (some c.mt), .map (some c.mv), .bool c.f.tainted]
    simpa [hz1] using this
  have hB : Below w1.heap.size w1 ((w1.alloc (.cells #[.int .i64 0, .int .i64 0, .slice none 0 0, .bool false] 65)).alloc (.cells #[.int .i64 c.f.rule, .int .i64 c.f.place, .map (some c.mt), .map (some c.mv), .bool c.f.tainted] 83)) := ((ext_refl w1).alloc (Nat.le_refl _) _).alloc (by simp) _
  generalize (w1.alloc (.cells #[.int .i64 0, .int .i64 0, .slice none 0 0, .bool false] 65)).alloc (.cells #[.int .i64 c.f.rule, .int .i64 c.f.place, .map (some c.mt), .map (some c.mv), .bool c.f.tainted] 83) = W at *
  have HR := Lib.hid (fun W' (hb : Below W.heap.size W W') => rising_any c.mt c.f.touched W' ((hT.ext hB).ext hb) hi hn)
  have HB1 := Lib.hid b1
  have c0 : W.cell? ⟨w.heap.size + 1, 0, none⟩ = some (.int .i64 c.f.rule) := b2.cell 0
  have c1 : W.cell? ⟨w.heap.size + 1, 1, none⟩ = some (.int .i64 c.f.place) := b2.cell 1
  have c2 : W.cell? ⟨w.heap.size + 1, 2, none⟩ = some (.map (some c.mt)) := b2.cell 2
  have c4 : W.cell? ⟨w.heap.size + 1, 4, none⟩ = some (.bool c.f.tainted) := b2.cell 4
  have hfl : w.heap.size + 1 < W.heap.size := b2.lt
  have b2lt := Lib.hid hfl
  have HH := Lib.hid (And.intro hS1 (And.intro hT (And.intro hU (And.intro hz1 hB))))
  clear hS1 hT hU hz1 hw1 hB b1 b2 g0 g1 g2 g3 g4 h1 hfz hgl hc hm hi HI HX
  go_region_held3 (fun w' => w'.cell? ⟨w.heap.size + 1, 0, none⟩ = some (.int .i64 c.f.rule) ∧ w'.cell? ⟨w.heap.size + 1, 1, none⟩ = some (.int .i64 c.f.place) ∧ w'.cell? ⟨w.heap.size + 1, 2, none⟩ = some (.map (some c.mt)) ∧ w'.cell? ⟨w.heap.size + 1, 4, none⟩ = some (.bool c.f.tainted)) (go_keep)
    (first | (go_at_call 41; refine (HR.out _ ?_).mono ?_; exact (ext_refl W).drew; rintro e w2 ⟨u, rfl, hrow, hb2⟩
              obtain ⟨A2, c2', rfl⟩ := ownsRow_form hrow
              have hb2 : Below W.heap.size W w2 := ⟨hb2.os, hb2.tape, hb2.output, hb2.size, hb2.block⟩
              have hq := HB1.out.below (B := W.heap.size) (w' := w2) hb2 HB1.out.lt
              have r0 := hq.cell 0
              have r1 := hq.cell 1
              have r2 := hq.cell 2
              have r3 := hq.cell 3
              have f0 := hq.frozen 0
              have f1 := hq.frozen 1
              have f2 := hq.frozen 2
              have f3 := hq.frozen 3
              have hql := hq.lt
              have k0 := (hb2.cell (p := ⟨w.heap.size + 1, 0, none⟩) hfl).trans c0
              have k1 := (hb2.cell (p := ⟨w.heap.size + 1, 1, none⟩) hfl).trans c1
              have k2 := (hb2.cell (p := ⟨w.heap.size + 1, 2, none⟩) hfl).trans c2
              have k4 := (hb2.cell (p := ⟨w.heap.size + 1, 4, none⟩) hfl).trans c4))
  have q4 := (((hq.set_ 0 (.int .i64 c.f.rule)).set_ 1 (.int .i64 c.f.place)).set_ 2 (.slice A2 c.f.touched.length c2')).set_ 3 (.bool c.f.tainted)
  have hu4 : Below W.heap.size W ((((w2.setCell ⟨w.heap.size, 0, none⟩ (.int .i64 c.f.rule)).setCell ⟨w.heap.size, 1, none⟩ (.int .i64 c.f.place)).setCell ⟨w.heap.size, 2, none⟩ (.slice A2 c.f.touched.length c2')).setCell ⟨w.heap.size, 3, none⟩ (.bool c.f.tainted)) → True := fun _ => trivial
  have hU4 : Upd (· = w.heap.size) w2 ((((w2.setCell ⟨w.heap.size, 0, none⟩ (.int .i64 c.f.rule)).setCell ⟨w.heap.size, 1, none⟩ (.int .i64 c.f.place)).setCell ⟨w.heap.size, 2, none⟩ (.slice A2 c.f.touched.length c2')).setCell ⟨w.heap.size, 3, none⟩ (.bool c.f.tainted)) :=
    (((setCell_upd w2 w.heap.size 0 _).setCell (p := ⟨w.heap.size, 1, none⟩) (fun _ => rfl) _).setCell (p := ⟨w.heap.size, 2, none⟩) (fun _ => rfl) _).setCell (p := ⟨w.heap.size, 3, none⟩) (fun _ => rfl) _
  generalize hw4 : (((w2.setCell ⟨w.heap.size, 0, none⟩ (.int .i64 c.f.rule)).setCell ⟨w.heap.size, 1, none⟩ (.int .i64 c.f.place)).setCell ⟨w.heap.size, 2, none⟩ (.slice A2 c.f.touched.length c2')).setCell ⟨w.heap.size, 3, none⟩ (.bool c.f.tainted) = W4 at *
  have e0 : W4.cell? ⟨w.heap.size, 0, none⟩ = some (.int .i64 c.f.rule) := q4.cell 0
  have e1 : W4.cell? ⟨w.heap.size, 1, none⟩ = some (.int .i64 c.f.place) := q4.cell 1
  have e2 : W4.cell? ⟨w.heap.size, 2, none⟩ = some (.slice A2 c.f.touched.length c2') := q4.cell 2
  have e3 : W4.cell? ⟨w.heap.size, 3, none⟩ = some (.bool c.f.tainted) := q4.cell 3
  have HQ := Lib.hid (And.intro hrow (And.intro hb2 hU4))
  clear hrow hb2 hU4 hu4 hw4 q4 hq r0 r1 r2 r3 f0 f1 f2 f3 hql k0 k1 k2 k4 c0 c1 c2 c4 hfl
  go_wp2
  refine bodyPost_ret (v := .tuple #[.agg #[.int .i64 c.f.rule, .int .i64 c.f.place, .slice A2 c.f.touched.length c2', .bool c.f.tainted], .int .i64 0]) (by simp [results, Try.results27, go_sem, e0, e1, e2, e3]) rfl ?_
  obtain ⟨hS1, hT, hU, hz1, hB⟩ := HH.out
  obtain ⟨hrow, hb2, hU4⟩ := HQ.out
  have hWz : w.heap.size + 1 < W.heap.size := by have := HB1.out.lt; have := hB.size; have := b2lt.out; omega
  have hS4 : StkC W4 p (.slice (some ⟨g, 0, none⟩) cs.length cap) cs :=
    ((hS1.ext hB).ext hb2).keep hU4 (fun k hk e => by have := hS1.foot_lt hk; omega)
  refine ⟨_, _, rfl, ?_, hS4, ?_, ?_⟩
  · have hr2 := ownsRow_keep hrow hU4 (fun k hk e => by
      have := (hrow.lt k hk).1
      have h3 : W.heap.size ≤ k := this
      omega)
    obtain ⟨h1, h2⟩ := hr2
    refine ⟨h1, ?_⟩
    rcases h2 with h2 | ⟨g', cap', cur', e, hg', r⟩
    · exact .inl h2
    · have h3 : W.heap.size ≤ g' := hg'
      exact .inr ⟨g', cap', cur', e, by omega, r⟩
  · exact ((hU.trans (Upd.of_ext hB)).trans (Upd.of_ext hb2)).trans' hU4 (fun i hi e => by omega)
  · intro k hk
    rcases hk with h | h | h
    · exact .inl h
    · exact .inr (.inl h)
    · refine .inr (.inr ?_)
      unfold mapsOf at h ⊢
      rw [List.flatMap_append]
      exact List.mem_append_left _ h
end Go.Proofs.Ytjmidomcgaijjaa
