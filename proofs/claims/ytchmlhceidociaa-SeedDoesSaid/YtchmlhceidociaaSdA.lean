/- The store's row: the last pair; one put behind; one taken away. -/
import Derived.Test.YtchmlhceidociaaSd
import Derived.Deep.RegionWith
import Derived.Deep.RegionLaw
import Derived.BigQuiet
import Derived.IntWalk
namespace Go.Proofs.Ytchmlhceidociaa
set_option linter.unusedVariables false
set_option linter.unusedSimpArgs false
open Go.RowKit

set_option maxRecDepth 100000 in
set_option maxHeartbeats 800000 in
theorem slast_none (p m : Nat) (v : Value) (w : World) (hs : SdC w p v m []) :
    Calls Try.prog 40 #[.pointer (some ⟨p, 0, none⟩)] w fun e w' => e = .returned (.tuple #[.agg #[.int .i64 0, .int .i64 0], .bool false]) ∧ Below w.heap.size w w' := by
  have h0 := hs.c0
  have hp := hs.blk.lt
  obtain ⟨A, c, rfl, _⟩ := hs.form
  have h0' : w.cell? ⟨p, 0, none⟩ = some (.slice A 0 c) := h0
  clear hs h0
  go_enter Try.func40, Try.ntmps40
  go_wp2
  refine bodyPost_ret (v := .tuple #[.agg #[.int .i64 0, .int .i64 0], .bool false]) (by simp [results, Try.results40, go_sem]) rfl ⟨rfl, (ext_refl w).alloc (Nat.le_refl _) _⟩

set_option maxRecDepth 100000 in
set_option maxHeartbeats 800000 in
theorem slast_some (p m : Nat) (v : Value) (cs : List PrC) (c : PrC) (w : World) (hs : SdC w p v m (cs ++ [c])) :
    Calls Try.prog 40 #[.pointer (some ⟨p, 0, none⟩)] w fun e w' => e = .returned (.tuple #[.agg #[.int .i64 c.p.rule, .int .i64 c.p.place], .bool true]) ∧ Below w.heap.size w w' := by
  have h0 := hs.c0
  have hp := hs.blk.lt
  have hl : (cs ++ [c]).length = cs.length + 1 := by simp
  obtain ⟨A, cap, rfl, hc, hm, -, hcells⟩ := hs.form
  obtain ⟨g, rfl, hg, hcell⟩ := hcells (by simp)
  obtain ⟨g0, g1⟩ := hcell cs.length (by simp)
  have hx : (cs ++ [c])[cs.length]'(by simp) = c := by simp
  rw [hx] at g0 g1
  rw [hl] at h0 hc
  unfold maxLen at hm
  clear hs hcell hcells hx hl
  have hcl : (0 : Int) ≤ (cs.length : Int) := by omega
  have hcl2 : (cs.length : Int) < (cs.length : Int) + 1 := by omega
  have hwr : IntKind.i64.wrap (cs.length : Int) = (cs.length : Int) := IntWalk.i64_in _ (by omega)
  have hne : (((cs.length + 1 : Nat) : Int) == 0) = false := by simp; omega
  go_enter Try.func40, Try.ntmps40
  go_wp2
  go_region_held3 (fun w' => w'.cell? ⟨p, 0, none⟩ = some (.slice (some ⟨g, 0, none⟩) (cs.length + 1) cap) ∧ w'.cell? ⟨g, cs.length * 2, none⟩ = some (.int .i64 c.p.rule) ∧ w'.cell? ⟨g, cs.length * 2 + 1, none⟩ = some (.int .i64 c.p.place)) (go_keep) (fail)
  go_wp2
  refine bodyPost_ret (v := .tuple #[.agg #[.int .i64 c.p.rule, .int .i64 c.p.place], .bool true]) (by simp [results, Try.results40, go_sem]) rfl ⟨rfl, ?_⟩
  exact (((ext_refl w).alloc (Nat.le_refl _) _).drew)

set_option maxRecDepth 100000 in
set_option maxHeartbeats 800000 in
theorem spush_any (p m : Nat) (v : Value) (cs : List PrC) (r pl : Int) (w : World) (hs : SdC w p v m cs) (hn : cs.length ≤ 1000000) :
    Calls Try.prog 22 #[.pointer (some ⟨p, 0, none⟩), .agg #[.int .i64 r, .int .i64 pl]] w fun e w' => e = .returned (.tuple #[]) ∧
      ∃ v', Blk w' p 57 #[v', .map (some m)] ∧ w'.ownsRow 0 64 2 v' (cs.length + 1) (rowP cs ++ [.int .i64 r, .int .i64 pl]) ∧ Upd (fun k => k = p ∨ v.ownBlock = some k) w w' ∧ ∀ k, v'.ownBlock = some k → v.ownBlock = some k ∨ w.heap.size ≤ k := by
  have h0 := hs.c0
  have hp := hs.blk.lt
  obtain ⟨i0, hi, hz0, hz1, hz2⟩ := info_parts (P := Try.prog) (e := 64) (z := .agg #[.int .i64 0, .int .i64 0]) (size := 2) (bytes := 16) (by kernel_rfl)
  obtain ⟨A, c, rfl⟩ := ownsRow_form hs.row
  have HS := Lib.hid hs
  have hf0 := hs.blk.frozen 0
  clear hs
  go_enter Try.func22, Try.ntmps22
  go_wp2
  have hB1 := HS.out.blk.ext ((ext_refl w).alloc (Nat.le_refl _) (.cells #[.int .i64 r, .int .i64 pl] 64))
  go_region_law (refine step_app (by rfl) (.tmp 8) (.tmp 10) 53 (by rfl) 64 i0 _ 2 16 Try.underlying53 hi hz0 hz1 hz2 rfl (by decide) (.slice A cs.length c) cs.length (rowP cs) (by rfl) (((HS.out.row.alloc _).alloc _).drew) _ 1 1 [.int .i64 r, .int .i64 pl] (by rfl) rfl (by simp) (cells_newA _ _ _ _ (by simp)) (by simp [Value.oneCell']) (by unfold maxLen; omega) (by omega) ?_
                 intro A2 c2 w2 hrow2 hu2 hv2 hz2'
                 have hB2 := (hB1.ext (((ext_refl _).alloc (Nat.le_refl _) (.cells #[.int .i64 r, .int .i64 pl] 64)).drew)).keep hu2 HS.out.own_ne
                 have k1 := hB2.cell 0
                 have kf := hB2.frozen 0
                 have kl := hB2.lt
                 have HU := Lib.hid (And.intro hB2 (And.intro hu2 (And.intro hv2 hrow2)))
                 clear hu2 hv2 hz2' hrow2 hB2)
  all_goals
    go_end0
    obtain ⟨hB2, hu2, hv2, hrow2⟩ := HU.out
    have hq : (Value.slice A2 (cs.length + 1) c2).ownBlock ≠ some p := fun e => by
      obtain ⟨cur, hb⟩ := own_blk hrow2 e
      exact Blk.ne_ hb hB2 (by decide) rfl
    have hW := (((ext_refl w).alloc (Nat.le_refl _) (.cells #[.int .i64 r, .int .i64 pl] 64)).alloc (by simp) (.cells #[.int .i64 r, .int .i64 pl] 64)).drew
    refine ⟨rfl, .slice A2 (cs.length + 1) c2, by simpa using hB2.set_ 0 _, ownsRow_keep hrow2 (setCell_upd w2 p 0 _) (fun k hk e => hq (by rw [hk, e])), ?_, fun k hk => (hv2 k hk).imp id (fun h => by simp at h; omega)⟩
    exact (((Upd.of_ext hW).trans' hu2 (fun i hi h => .inr h)).setCell (p := ⟨p, 0, none⟩) (fun _ => .inl rfl) _)

set_option maxRecDepth 100000 in
set_option maxHeartbeats 800000 in
theorem spop_any (p m : Nat) (v : Value) (cs : List PrC) (c : PrC) (w : World) (hs : SdC w p v m (cs ++ [c])) :
    Calls Try.prog 42 #[.pointer (some ⟨p, 0, none⟩)] w fun e w' => e = .returned (.tuple #[]) ∧
      ∃ v', Blk w' p 57 #[v', .map (some m)] ∧ w'.ownsRow 0 64 2 v' cs.length (rowP cs) ∧ Upd (fun k => k = p) w w' ∧ v'.ownBlock = v.ownBlock := by
  have h0 := hs.c0
  have hp := hs.blk.lt
  have hf0 := hs.blk.frozen 0
  have hl : (cs ++ [c]).length = cs.length + 1 := by simp
  obtain ⟨g, cap, cur, rfl, hg, hc, hm, hcs, htk⟩ := hs.head (by simp)
  rw [hl] at h0 hc htk
  have hgp : g ≠ p := fun e => Blk.ne_ hg hs.blk (by decide) e
  have HX := Lib.hid (And.intro hs.blk (And.intro hg (And.intro hcs (And.intro htk (And.intro hgp hm)))))
  unfold maxLen at hm
  clear hs hl hg hcs htk hgp
  have hcl : (0 : Int) ≤ (cs.length : Int) := by omega
  have hcl2 : (cs.length : Int) ≤ (cap : Int) := by omega
  have hwr : IntKind.i64.wrap (cs.length : Int) = (cs.length : Int) := IntWalk.i64_in _ (by omega)
  go_enter Try.func42, Try.ntmps42
  go_wp2
  go_region
  all_goals go_end0
  obtain ⟨hB, hg, hcs, htk, hgp, hm⟩ := HX.out
  refine ⟨rfl, .slice (some ⟨g, 0, none⟩) cs.length cap, Blk.drew (by simpa using hB.set_ 0 (.slice (some ⟨g, 0, none⟩) cs.length cap)), ⟨rowP_length cs, .inr ⟨g, cap, cur, rfl, Nat.zero_le _, ?_, by omega, hm, hcs, ?_⟩⟩, ?_, rfl⟩
  · exact (Below.heap_setCell _ _ _ _ hgp).trans hg
  · rw [rowP_snoc] at htk
    have h2 := congrArg (List.take (cs.length * 2)) htk
    rw [List.take_take, Nat.min_eq_left (by omega), List.take_left' (rowP_length cs)] at h2
    exact h2
  · exact ((Upd.refl (· = p) w).setCell (p := ⟨p, 0, none⟩) (fun _ => rfl) _).drew
end Go.Proofs.Ytchmlhceidociaa
