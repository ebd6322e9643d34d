/- What pairs stand; a copy of a stack. -/
import Derived.Test.YtjmidomcgaijjaaLeave
namespace Go.Proofs.Ytjmidomcgaijjaa
set_option linter.unusedVariables false
open Go.RowKit

def pairCells (f : Fr) : List Value := [.int .i64 f.rule, .int .i64 f.place]

set_option maxRecDepth 100000 in
set_option maxHeartbeats 400000 in
theorem pair_any (r pl : Int) (m1 m2 : Value) (tb : Bool) (w : World) :
    Calls Try.prog 66 #[.agg #[.int .i64 r, .int .i64 pl, m1, m2, .bool tb]] w fun e w' => e = .returned (.agg #[.int .i64 r, .int .i64 pl]) ∧ Below w.heap.size w w' := by
  go_enter Try.func66, Try.ntmps66
  go_wp2
  refine bodyPost_ret (v := .agg #[.int .i64 r, .int .i64 pl]) (by simp [results, Try.results66, go_sem]) rfl ⟨rfl, ?_⟩
  exact ((ext_refl w).alloc (Nat.le_refl _) _).alloc (by simp) _

set_option maxRecDepth 100000 in
set_option maxHeartbeats 800000 in
theorem each_any (cs : List FrC) (v : Value) (p : Nat) (w : World) (hs : StkC w p v cs) (hn : cs.length ≤ 1000000) :
    Calls Try.prog 65 #[.pointer (some ⟨p, 0, none⟩), .func (.func 66) #[] #[]] w fun e w' => ∃ u, e = .returned u ∧ w'.ownsRow 0 63 2 u cs.length ((frs cs).flatMap pairCells) ∧ Below w.heap.size w w' := by
  have h1 := hs.c1
  have hp := hs.lt
  obtain ⟨i0, hi, hz0, hz1, hz2⟩ := info_parts (P := Try.prog) (e := 63) (z := .agg #[.int .i64 0, .int .i64 0]) (size := 2) (bytes := 16) (by kernel_rfl)
  obtain ⟨A, c, rfl, hc, hm, _, hcells⟩ := hs.reads.frame
  unfold maxLen at hm
  have HN := Lib.hid (fun W (h : Below w.heap.size w W) => hs.ext h)
  clear hs
  go_enter Try.func65, Try.ntmps65
  go_wp2
  go_loopw [4, 12] (fun u i wr => ∃ k : Nat, k ≤ cs.length ∧ i = .int .i64 k ∧ wr.ownsRow 0 63 2 u k (((frs cs).take k).flatMap pairCells) ∧ (∀ b, u.ownBlock = some b → w.heap.size ≤ b) ∧ Below w.heap.size w wr) (fun _ i _ => cs.length - (intOf i).toNat)
  case atStart => exact ⟨0, Nat.zero_le _, rfl, World.ownsRow_nil _ _ _ _, by simp [Value.ownBlock], Below.refl _ _⟩
  case round =>
    obtain ⟨k, hk, rfl, hrow, hown, hB⟩ := hrel
    obtain ⟨A1, c1, rfl⟩ := ownsRow_form hrow
    by_cases hlt : k < cs.length
    · obtain ⟨b, o, rfl, hbl, hcell⟩ := hcells (by omega)
      obtain ⟨g0, g1, g2, g3, g4⟩ := (hcell k hlt).keep (w' := wr) (fun j => hB.cell (p := ⟨b, j, none⟩) hbl)
      have hbl' : b < wr.heap.size := Nat.lt_of_lt_of_le hbl hB.size
      have hfk : (frs cs).take (k + 1) = (frs cs).take k ++ [cs[k].f] := by
        rw [List.take_succ_eq_append_getElem (by simpa [frs] using hlt)]; simp [frs]
      have HF := Lib.hid hfk
      have HO := Lib.hid hown
      have hzz := hB.size
      have HP := Lib.hid (fun W => pair_any cs[k].f.rule cs[k].f.place (.map (some cs[k].mt)) (.map (some cs[k].mv)) cs[k].f.tainted W)
      clear hfk hown hcell hcells
      generalize cs[k] = ck at *
      go_wp2_with (first
        | (go_at_call 66; refine (HP.out _).mono ?_; rintro e w1 ⟨rfl, hb1⟩)
        | (at_builtin; refine wpList_app rfl _ _ 94 rfl 63 i0 _ 2 16 Try.underlying94 hi hz0 hz1 hz2 rfl (by decide) _ k _ rfl ((ownsRow_keep (S := fun _ => False) (hrow.alloc _) (Upd.of_ext hb1) (fun _ _ h => h)).alloc _) _ 1 1 [.int .i64 ck.f.rule, .int .i64 ck.f.place] rfl rfl (by simp) (cells_newA _ _ _ _ (by simp)) (by simp [Value.oneCell']) (by unfold maxLen; omega) (by omega) ?_
           intro A2 c2 w2 hrow2 hu2 hv2 hz2'
           have HU := Lib.hid (And.intro hu2 (And.intro hv2 (And.intro hrow2 hb1)))
           clear hu2 hv2 hz2' hrow2))
      go_roundw
      case rel =>
        obtain ⟨hu2, hv2, hrow2, hb1⟩ := HU.out
        refine ⟨k + 1, by omega, by go_num, ?_, ?_, ?_⟩
        · rw [HF.out, List.flatMap_append]
          simpa [pairCells] using hrow2
        · intro b hb
          rcases hv2 b hb with h | h
          · exact HO.out b h
          · have := hb1.size; simp at h this; omega
        · have hz3 : w.heap.size ≤ (wr.alloc (.cells #[.int .i64 ck.f.rule, .int .i64 ck.f.place, .map (some ck.mt), .map (some ck.mv), .bool ck.f.tainted] 83)).heap.size := by simp; omega
          have h1 : Below w.heap.size w w1 := (hB.alloc hzz _).trans (hb1.mono hz3)
          have h2 := h1.alloc h1.size (.cells #[.int .i64 ck.f.rule, .int .i64 ck.f.place] 63)
          exact h2.trans (hu2.below h2.size (fun i hi e => by have := HO.out i e; omega))
      case measure => simp [intOf]; omega
    · obtain rfl : k = cs.length := by omega
      rw [List.take_of_length_le (by simp [frs])] at hrow
      go_wp2
      go_ret
      exact ⟨_, rfl, hrow, hB⟩

set_option maxRecDepth 100000 in
set_option maxHeartbeats 800000 in
theorem pairs_any (cs : List FrC) (v : Value) (p : Nat) (w : World) (hs : StkC w p v cs) (hn : cs.length ≤ 1000000) :
    Calls Try.prog 54 #[.pointer (some ⟨p, 0, none⟩)] w fun e w' => ∃ u, e = .returned u ∧ w'.ownsRow 0 63 2 u cs.length ((frs cs).flatMap pairCells) ∧ Below w.heap.size w w' := by
  have HI := Lib.hid (is_any p w hs.c0)
  have HE := Lib.hid (each_any cs v p w hs hn)
  clear hs
  go_enter Try.func54, Try.ntmps54
  go_wp2_with (first
    | (go_at_call 39; refine HI.out.mono ?_; rintro e w1 ⟨rfl, rfl⟩)
    | (go_at_call 65; refine HE.out.mono ?_; rintro e w1 ⟨u, rfl, hrow, hb⟩))
  go_ret
  exact ⟨_, rfl, hrow, hb⟩
end Go.Proofs.Ytjmidomcgaijjaa
