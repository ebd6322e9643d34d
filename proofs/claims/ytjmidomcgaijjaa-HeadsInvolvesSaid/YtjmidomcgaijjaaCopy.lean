/- A copy of a stack. -/
import Derived.Test.YtjmidomcgaijjaaPairs
import Derived.Deep.RegionWith
import Derived.Deep.RegionLaw
namespace Go.Proofs.Ytjmidomcgaijjaa
set_option linter.unusedVariables false
open Go.RowKit

/-- An activation more, its two sets there already. -/
theorem StkC.push2 {w w2 : World} {p : Nat} {v v' : Value} {cs : List FrC} (h : StkC w p v cs) (x : FrC) (hx1 : SetAt w x.mt x.f.touched) (hx2 : SetAt w x.mv x.f.involved) (h12 : x.mt ≠ x.mv) (hn1 : x.mt ∉ mapsOf cs) (hn2 : x.mv ∉ mapsOf cs)
    (hrow : w2.ownsRow 0 83 5 v' (cs.length + 1) (rowOf cs ++ x.cells)) (hu : Upd (fun k => v.ownBlock = some k) w w2) (hv : ∀ k, v'.ownBlock = some k → v.ownBlock = some k ∨ w.heap.size ≤ k) :
    StkC (w2.setCell ⟨p, 1, none⟩ v') p v' (cs ++ [x]) ∧ Upd (Foot p v cs) w (w2.setCell ⟨p, 1, none⟩ v') ∧ ∀ k, Foot p v' (cs ++ [x]) k → Foot p v cs k ∨ k = x.mt ∨ k = x.mv ∨ w.heap.size ≤ k := by
  have hself : ∀ g, v'.ownBlock = some g → ∃ cur z, w2.heap[g]? = some (.cells cur 83 z) := by
    intro g hg
    rcases hrow.2 with ⟨rfl, _⟩ | ⟨g', cap, cur, rfl, _, hg', _⟩
    · cases hg
    · cases hg; exact ⟨cur, _, hg'⟩
  have hvp : v'.ownBlock ≠ some p := by
    intro e
    obtain ⟨cur, z, hc⟩ := hself p e
    have := h.blk.keep hu h.own_ne
    unfold Blk at this
    rw [hc] at this
    injection this with this
    injection this with _ ht
    exact absurd ht (by decide)
  have huS : Upd (· = p) w2 (w2.setCell ⟨p, 1, none⟩ v') := setCell_upd w2 p 1 v'
  have hne : ∀ k l, SetAt w k l → v.ownBlock ≠ some k ∧ k ≠ p := by
    intro k l hk
    obtain ⟨es, cl, he, _⟩ := hk
    refine ⟨fun e => ?_, (map_ne_cells h.blk he).symm⟩
    rcases h.row.2 with ⟨rfl, _⟩ | ⟨g, cap, cur, rfl, _, hg, _⟩
    · cases e
    · cases e; exact map_ne_cells hg he rfl
  have hkeep : ∀ k l, SetAt w k l → SetAt (w2.setCell ⟨p, 1, none⟩ v') k l := fun k l hk => (hk.keep hu (hne k l hk).1).keep huS (hne k l hk).2
  refine ⟨⟨?_, ?_, ?_, ?_⟩, ?_, ?_⟩
  · have := (h.blk.keep hu h.own_ne).set_ 1 v'
    simpa using this
  · rw [List.length_append, rowOf_snoc]
    exact ownsRow_keep hrow huS (fun k hk e => hvp (by rw [hk, e]))
  · intro c hc
    rcases List.mem_append.1 hc with hc | hc
    · have hs := h.sets c hc
      exact ⟨hkeep _ _ hs.1, hkeep _ _ hs.2⟩
    · simp at hc
      subst hc
      exact ⟨hkeep _ _ hx1, hkeep _ _ hx2⟩
  · unfold mapsOf
    rw [List.flatMap_append, List.nodup_append]
    refine ⟨h.nodup, by simp [h12], ?_⟩
    intro a ha b hb e
    simp at hb
    rcases hb with rfl | rfl
    · exact hn1 (e ▸ ha)
    · exact hn2 (e ▸ ha)
  · exact ((Upd.refl _ _).trans' hu (fun i hi e => .inr (.inl e))).setCell (fun _ => .inl rfl) v'
  · intro k hk
    rcases hk with rfl | hk | hk
    · exact .inl (.inl rfl)
    · rcases hv k hk with h | h
      · exact .inl (.inr (.inl h))
      · exact .inr (.inr (.inr h))
    · unfold mapsOf at hk
      rw [List.flatMap_append, List.mem_append] at hk
      rcases hk with hk | hk
      · exact .inl (.inr (.inr hk))
      · simp at hk
        rcases hk with rfl | rfl
        · exact .inr (.inl rfl)
        · exact .inr (.inr (.inl rfl))

set_option maxRecDepth 100000 in
set_option maxHeartbeats 1600000 in
theorem copy_any (cs : List FrC) (v : Value) (p : Nat) (w : World) (hs : StkC w p v cs) (hn : cs.length ≤ 1000000) :
    Calls Try.prog 30 #[.pointer (some ⟨p, 0, none⟩)] w fun e w' => ∃ q u cs', e = .returned (.pointer (some ⟨q, 0, none⟩)) ∧ StkC w' q u cs' ∧ frs cs' = frs cs ∧ (∀ b, Foot q u cs' b → w.heap.size ≤ b) ∧ Below w.heap.size w w' := by
  have h1 := hs.c1
  have hp := hs.lt
  have HI := Lib.hid (is_any p w hs.c0)
  obtain ⟨i0, hi, hz0, hz1, hz2⟩ := info_parts (P := Try.prog) (e := 83) (z := .agg #[.int .i64 0, .int .i64 0, .map none, .map none, .bool false]) (size := 5) (bytes := 40) (by kernel_rfl)
  obtain ⟨A, c, rfl, hc, hm, _, hcells⟩ := hs.reads.frame
  unfold maxLen at hm
  have HS := Lib.hid hs
  have HW := Lib.hid (new_any w)
  clear hs
  go_enter Try.func30, Try.ntmps30
  go_wp2_with (first
    | (go_at_call 39; refine HI.out.mono ?_; rintro e w1 ⟨rfl, rfl⟩)
    | (go_at_call 9; refine HW.out.mono ?_; rintro e w1 ⟨rfl, hs1, hb1, hz1⟩; have hc1 := (HS.out.ext hb1).c1; have hp1 := (HS.out.ext hb1).lt))
  have HZ := Lib.hid hz1
  clear hz1 hc1 hp1
  go_loopw [15] (fun i wr => ∃ k : Nat, k ≤ cs.length ∧ i = .int .i64 k ∧ Below w.heap.size w wr ∧ ∃ u csk, StkC wr w.heap.size u csk ∧ frs csk = (frs cs).take k ∧ ∀ b, Foot w.heap.size u csk b → w.heap.size ≤ b) (fun i _ => cs.length - (intOf i).toNat)
  case atStart => exact ⟨0, Nat.zero_le _, rfl, hb1, _, _, hs1, rfl, fun b hb => by
    rcases hb with rfl | hb | hb
    · exact Nat.le_refl _
    · simp [Value.ownBlock] at hb
    · simp [mapsOf] at hb⟩
  case round =>
    obtain ⟨k, hk, rfl, hB, u, csk, hsk, hfk, hft⟩ := hrel
    by_cases hlt : k < cs.length
    · obtain ⟨b, o, rfl, hbl, hcell⟩ := hcells (by omega)
      obtain ⟨g0, g1, g2, g3, g4⟩ := (hcell k hlt).keep (w' := wr) (fun j => hB.cell (p := ⟨b, j, none⟩) hbl)
      have hbl' : b < wr.heap.size := Nat.lt_of_lt_of_le hbl hB.size
      have hset := (HS.out.ext hB).sets _ (List.getElem_mem hlt)
      have HC := Lib.hid (fun W (h : Below wr.heap.size wr W) => And.intro (clone_any _ _ W (hset.1.ext h)) (clone_any _ _ W (hset.2.ext h)))
      have hf1 : (frs cs).take (k + 1) = (frs cs).take k ++ [cs[k].f] := by
        rw [List.take_succ_eq_append_getElem (by simpa [frs] using hlt)]; simp [frs]
      have HF := Lib.hid hf1
      have HK := Lib.hid (And.intro hsk (And.intro hfk hft))
      clear hsk hfk hft hset hf1 hcell hcells
      generalize cs[k] = ck at *
      go_wp2
      have b1 := Blk.new wr 83 #[.int .i64 ck.f.rule, .int .i64 ck.f.place, .map (some ck.mt), .map (some ck.mv), .bool ck.f.tainted]
      have hBW : Below wr.heap.size wr (wr.alloc (.cells #[.int .i64 ck.f.rule, .int .i64 ck.f.place, .map (some ck.mt), .map (some ck.mv), .bool ck.f.tainted] 83)) := (ext_refl wr).alloc (Nat.le_refl _) _
      have hWz : (wr.alloc (.cells #[.int .i64 ck.f.rule, .int .i64 ck.f.place, .map (some ck.mt), .map (some ck.mv), .bool ck.f.tainted] 83)).heap.size = wr.heap.size + 1 := by simp
      generalize wr.alloc (.cells #[.int .i64 ck.f.rule, .int .i64 ck.f.place, .map (some ck.mt), .map (some ck.mv), .bool ck.f.tainted] 83) = W1 at *
      have HWZ := Lib.hid hWz
      have HB1 := Lib.hid b1
      obtain ⟨fb, hfb⟩ : ∃ fb, fb = wr.heap.size := ⟨_, rfl⟩
      have HFB := Lib.hid hfb
      rw [← hfb] at HB1
      rw [← hfb]
      clear hWz b1 g0 g1 g2 g3 g4 hfb
      have q2 : W1.cell? ⟨fb, 2, none⟩ = some (.map (some ck.mt)) := HB1.out.cell 2
      have q3 : W1.cell? ⟨fb, 3, none⟩ = some (.map (some ck.mv)) := HB1.out.cell 3
      have qf : fb < W1.heap.size := HB1.out.lt
      go_region_with (first
        | (go_at_call_of 53 (Value.map (some ck.mt)); refine ((HC.out _ ?_).1).mono ?_; exact hBW.drew; rintro e w2 ⟨rfl, hsa, hba, hza⟩
           have q2 := (hba.cell (p := ⟨fb, 2, none⟩) qf).trans q2
           have q3 := (hba.cell (p := ⟨fb, 3, none⟩) qf).trans q3
           have hbb : Below wr.heap.size wr w2 := ext_trans hBW.drew hba
           have HZA := Lib.hid hza
           clear hza)
        | (go_at_call_of 53 (Value.map (some ck.mv)); refine ((HC.out _ ?_).2).mono ?_; exact hbb; rintro e w3 ⟨rfl, hsb, hbc, hzb⟩
           have hq := (HB1.out.below (B := W1.heap.size) (w' := w2) ⟨hba.os, hba.tape, hba.output, hba.size, hba.block⟩ HB1.out.lt).ext hbc
           have q2 := hq.cell 2
           have q3 := hq.cell 3
           have f2 := hq.frozen 2
           have f3 := hq.frozen 3
           have ql := hq.lt
           have HZB := Lib.hid hzb
           clear hzb))
      all_goals
        have q4 := (hq.set_ 2 (.map (some W1.heap.size))).set_ 3 (.map (some w2.heap.size))
        have hU4 : Upd (· = fb) w3 ((w3.setCell ⟨fb, 2, none⟩ (.map (some W1.heap.size))).setCell ⟨fb, 3, none⟩ (.map (some w2.heap.size))) := (setCell_upd w3 fb 2 _).setCell (p := ⟨fb, 3, none⟩) (fun _ => rfl) _
        generalize (w3.setCell ⟨fb, 2, none⟩ (.map (some W1.heap.size))).setCell ⟨fb, 3, none⟩ (.map (some w2.heap.size)) = W4 at *
        have e0 : W4.cell? ⟨fb, 0, none⟩ = some (.int .i64 ck.f.rule) := q4.cell 0
        have e1 : W4.cell? ⟨fb, 1, none⟩ = some (.int .i64 ck.f.place) := q4.cell 1
        have e2 : W4.cell? ⟨fb, 2, none⟩ = some (.map (some W1.heap.size)) := q4.cell 2
        have e3 : W4.cell? ⟨fb, 3, none⟩ = some (.map (some w2.heap.size)) := q4.cell 3
        have e4 : W4.cell? ⟨fb, 4, none⟩ = some (.bool ck.f.tainted) := q4.cell 4
        have hfl : fb < W4.heap.size := q4.lt
        have hz1 : W1.heap.size = wr.heap.size + 1 := HWZ.out
        have hz2' : w2.heap.size = wr.heap.size + 2 := by have : w2.heap.size = W1.heap.size + 1 := HZA.out; omega
        have hz3 : w3.heap.size = wr.heap.size + 3 := by have := HZB.out; omega
        have hB14 : Below wr.heap.size wr W4 := (ext_trans hbb hbc).trans (hU4.below (by omega) (fun k hk e => by have := HFB.out; omega))
        have hx1 : SetAt W4 W1.heap.size ck.f.touched := (SetAt.ext (w := w2) hsa hbc).keep hU4 (fun e => by have := HFB.out; have e : W1.heap.size = fb := e; omega)
        have hx2 : SetAt W4 w2.heap.size ck.f.involved := hsb.keep hU4 (fun e => by have := HFB.out; omega)
        have hsk4 : StkC W4 w.heap.size u csk := HK.out.1.ext hB14
        have hz4 : wr.heap.size + 3 ≤ W4.heap.size := by have := hU4.size; omega
        have HX := Lib.hid (And.intro hx1 (And.intro hx2 (And.intro hsk4 (And.intro hB14 (And.intro hz1 (And.intro hz2' hz4))))))
        have h41 := hsk4.c1
        have h4l := hsk4.lt
        have h4f := hsk4.blk.frozen 1
        clear hx1 hx2 hsk4 hB14 hz1 hz2' hz3 hz4 hU4 q4 hq q2 q3 f2 f3 ql hsa hsb hba hbc hbb qf hBW
        have hnk : csk.length ≤ 1000000 := by
          have h1 := congrArg List.length HK.out.2.1
          simp [frs] at h1
          omega
        generalize hm1 : W1.heap.size = m1 at *
        generalize hm2 : w2.heap.size = m2 at *
        clear hm1 hm2
        go_wp2
        go_region_law (refine step_app rfl (.tmp 31) (.tmp 33) 76 rfl 83 i0 _ 5 40 Try.underlying76 hi hz0 hz1 hz2 rfl (by decide) u csk.length (rowOf csk) rfl ((HX.out.2.2.1.row.alloc _).drew) _ 1 1 [.int .i64 ck.f.rule, .int .i64 ck.f.place, .map (some m1), .map (some m2), .bool ck.f.tainted] rfl rfl (by simp) (cells_newA _ _ _ _ (by simp)) (by simp [Value.oneCell']) (by unfold maxLen; omega) (by omega) ?_
                       intro A2 c2 w5 hrow5 hu5 hv5 hz5
                       have hq5 : Blk w5 w.heap.size 78 #[.bool true, u] := ((HX.out.2.2.1.blk.alloc _).drew).keep hu5 (fun e => HX.out.2.2.1.own_ne e)
                       have c51 : w5.cell? ⟨w.heap.size, 1, none⟩ = some u := hq5.cell 1
                       have c5f := hq5.frozen 1
                       have c5l := hq5.lt
                       have HU := Lib.hid (And.intro hu5 (And.intro hv5 hrow5))
                       clear hq5
                       clear hu5 hv5 hz5 hrow5)
        all_goals
          go_wp2
          go_roundw
          case rel =>
            obtain ⟨hu5, hv5, hrow5⟩ := HU.out
            obtain ⟨hx1, hx2, hsk4, hB14, hz1, hz2', hz4⟩ := HX.out
            obtain ⟨hsk, hfk, hft⟩ := HK.out
            have hbd : Below W4.heap.size W4 ((W4.alloc (.cells #[.int .i64 ck.f.rule, .int .i64 ck.f.place, .map (some m1), .map (some m2), .bool ck.f.tainted] 83)).drew) := ((ext_refl W4).alloc (Nat.le_refl _) _).drew
            have hno : ∀ k, wr.heap.size ≤ k → k ∉ mapsOf csk := fun k hk hm => by have := hsk.foot_lt (.inr (.inr hm)); omega
            obtain ⟨r1, r2, r3⟩ := (hsk4.ext hbd).push2 ⟨ck.f, m1, m2⟩ (hx1.ext hbd) (hx2.ext hbd) (show m1 ≠ m2 by omega) (hno m1 (by omega)) (hno m2 (by omega)) hrow5 hu5 (fun k hk => hv5 k hk)
            have hzz : w.heap.size ≤ wr.heap.size := hB.size
            refine ⟨k + 1, by omega, by go_num, ?_, _, _, r1, ?_, ?_⟩
            · have h1 : Below w.heap.size w W4 := hB.trans (hB14.mono hzz)
              have h2 : Below w.heap.size w ((W4.alloc (.cells #[.int .i64 ck.f.rule, .int .i64 ck.f.place, .map (some m1), .map (some m2), .bool ck.f.tainted] 83)).drew) := h1.trans (hbd.mono h1.size)
              exact h2.trans (r2.below h2.size (fun i hi hf => by have := hft i hf; omega))
            · rw [HF.out, ← hfk]; simp [frs]
            · intro i hi
              rcases r3 i hi with h | h | h | h
              · exact hft i h
              · have h : i = m1 := h
                omega
              · have h : i = m2 := h
                omega
              · have h : W4.heap.size + 1 ≤ i := by simpa using h
                omega
          case measure => simp [intOf]; omega
    · obtain rfl : k = cs.length := by omega
      have HK := Lib.hid (And.intro hsk (And.intro hfk hft))
      clear hsk hfk hft
      go_wp2
      go_ret
      obtain ⟨hsk, hfk, hft⟩ := HK.out
      exact ⟨_, _, _, rfl, hsk, by rw [hfk, List.take_of_length_le (by simp [frs])], hft, hB⟩
end Go.Proofs.Ytjmidomcgaijjaa
