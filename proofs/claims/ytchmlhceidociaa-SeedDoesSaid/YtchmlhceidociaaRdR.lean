/- The document's store: what is read. -/
import Derived.Test.YtchmlhceidociaaRdG
namespace Go.Proofs.Ytchmlhceidociaa
set_option linter.unusedVariables false
set_option linter.unusedSimpArgs false
open Go.RowKit

theorem pos_find (q : Pr → Bool) (cs : List PrC) (x : Pr) (h : (prs cs).find? q = some x) : ∃ k, ∃ hk : k < cs.length, posOf q (prs cs) = k ∧ cs[k].p = x := by
  obtain ⟨hx, k, hk, h1, h2⟩ := List.find?_eq_some_iff_getElem.1 h
  have hk' : k < cs.length := by simpa [prs] using hk
  refine ⟨k, hk', posOf_hit hk (by rw [h1]; exact hx) (fun j hj => by simpa using h2 j hj), ?_⟩
  simpa [prs] using h1
theorem pos_none (q : Pr → Bool) (cs : List PrC) (h : (prs cs).find? q = none) : posOf q (prs cs) = -1 := by
  refine posOf_none (fun j hj => ?_)
  have := List.find?_eq_none.1 h _ (List.getElem_mem hj)
  simpa using this

set_option maxRecDepth 100000 in
set_option maxHeartbeats 1600000 in
theorem rread_any (q : Nat) (v : Value) (cs : List PrC) (r pl lv : Int) (w : World) (h : RdC w q v cs) :
    Calls Try.prog 36 #[.pointer (some ⟨q, 0, none⟩), .int .i64 r, .int .i64 pl, .int .i64 lv] w fun e w' => ∃ (x : Pr) (A : Option Addr) (n c : Nat), e = .returned (.tuple #[.agg #[.int .i64 x.rule, .int .i64 x.place, .bool x.has, .int .i64 (readA (prs cs) r pl lv).1.end_, .int .i64 (readA (prs cs) r pl lv).1.level, .slice A n c], .int .i64 (readA (prs cs) r pl lv).2]) ∧
      RowT w' (.slice A n c) (readA (prs cs) r pl lv).1.tree ∧ Below w.heap.size w w' := by
  have hb1 := (ext_refl w).alloc (Nat.le_refl _) (.cells #[.int .i64 0, .int .i64 0, .bool false, .int .i64 0, .int .i64 0, .slice none 0 0] 36)
  have HA := Lib.hid (atR_any q v cs r pl _ (h.ext hb1))
  have h0 := h.c0
  have hp := h.blk.lt
  obtain ⟨A, c, rfl, hc, hm, _, hcells⟩ := h.form
  unfold maxLen at hm
  have HR := Lib.hid h
  unfold readA
  cases hf : (prs cs).find? (isP r pl) with
  | none =>
    have hpos := pos_none _ cs hf
    rw [hpos] at HA
    clear hcells h hf hpos
    go_enter Try.func36, Try.ntmps36
    go_wp2_with (first
      | (go_at_call 23; refine HA.out.mono ?_; rintro e w1 ⟨rfl, rfl⟩))
    refine bodyPost_ret (v := .tuple #[.agg #[.int .i64 0, .int .i64 0, .bool false, .int .i64 0, .int .i64 0, .slice none 0 0], .int .i64 1]) (by simp [results, Try.results36, go_sem]) rfl ⟨zeroP, none, 0, 0, rfl, RowT.nil _, hb1⟩
  | some x =>
    obtain ⟨k, hk, hpos, rfl⟩ := pos_find _ cs x hf
    rw [hpos] at HA
    obtain ⟨g, cur, rfl, hgb, hg, hcell⟩ := hcells (by omega)
    obtain ⟨g0, g1, g2, g3, g4, g5⟩ := hcell k hk
    have htr := h.trees _ (List.getElem_mem hk)
    obtain ⟨At, ct, hct⟩ := htr.form
    rw [hct] at g5 htr
    have HT := Lib.hid htr
    have hkl : (k : Int) < (cs.length : Int) := by omega
    have hk0 : ¬ ((k : Int) < 0) := by omega
    clear hcells hcell h hf hpos hct htr HR
    generalize cs[k] = d at *
    dsimp only
    cases hh : d.p.has with
    | false =>
      have hgv : givesB d.p lv = false := by simp [givesB, hh]
      rw [hgv]
      rw [hh] at g2
      clear hh hgv
      go_enter Try.func36, Try.ntmps36
      go_wp2_with (first
        | (go_at_call 23; refine HA.out.mono ?_; rintro e w1 ⟨rfl, rfl⟩))
      refine bodyPost_ret (v := .tuple #[.agg #[.int .i64 0, .int .i64 0, .bool false, .int .i64 0, .int .i64 0, .slice none 0 0], .int .i64 2]) (by simp [results, Try.results36, go_sem]) rfl ⟨zeroP, none, 0, 0, rfl, RowT.nil _, hb1⟩
    | true =>
      rw [hh] at g2
      by_cases hlv : d.p.level ≤ lv
      · have hgv : givesB d.p lv = true := by simp [givesB, hh, hlv]
        rw [hgv]
        clear hh hgv
        go_enter Try.func36, Try.ntmps36
        go_wp2_with (first
          | (go_at_call 23; refine HA.out.mono ?_; rintro e w1 ⟨rfl, rfl⟩))
        refine bodyPost_ret (v := .tuple #[.agg #[.int .i64 d.p.rule, .int .i64 d.p.place, .bool true, .int .i64 d.p.end_, .int .i64 d.p.level, .slice At d.p.tree.length ct], .int .i64 3]) (by simp [results, Try.results36, go_sem]) rfl ⟨⟨d.p.rule, d.p.place, true, 0, 0, []⟩, At, _, ct, rfl, HT.out.alloc _, ?_⟩
        exact (ext_refl w).alloc (Nat.le_refl _) _
      · have hgv : givesB d.p lv = false := by simp [givesB, hh, hlv]
        have hlv' : lv < d.p.level := by omega
        rw [hgv]
        clear hh hgv hlv
        go_enter Try.func36, Try.ntmps36
        go_wp2_with (first
          | (go_at_call 23; refine HA.out.mono ?_; rintro e w1 ⟨rfl, rfl⟩))
        refine bodyPost_ret (v := .tuple #[.agg #[.int .i64 0, .int .i64 0, .bool false, .int .i64 0, .int .i64 0, .slice none 0 0], .int .i64 2]) (by simp [results, Try.results36, go_sem]) rfl ⟨zeroP, none, 0, 0, rfl, RowT.nil _, hb1⟩
end Go.Proofs.Ytchmlhceidociaa
