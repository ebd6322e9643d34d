/- The document's store in memory: a row of pairs, each with its tree. -/
import Derived.Test.YtchmlhceidociaaSdF
namespace Go.Proofs.Ytchmlhceidociaa
set_option linter.unusedVariables false
set_option linter.unusedSimpArgs false
open Go.RowKit

def PrC.cellq (c : PrC) : List Value := [.int .i64 c.p.rule, .int .i64 c.p.place, .bool c.p.has, .int .i64 c.p.end_, .int .i64 c.p.level, c.tv]
def rowQ (cs : List PrC) : List Value := cs.flatMap PrC.cellq
theorem rowQ_snoc (cs : List PrC) (c : PrC) : rowQ (cs ++ [c]) = rowQ cs ++ c.cellq := by simp [rowQ]
theorem rowQ_length (cs : List PrC) : (rowQ cs).length = cs.length * 6 := by
  induction cs with
  | nil => rfl
  | cons c cs ih =>
    unfold rowQ at ih ⊢
    rw [List.flatMap_cons, List.length_append, ih, List.length_cons, Nat.add_mul, Nat.one_mul, Nat.add_comm]
    rfl
theorem rowQ_at (cs : List PrC) (i : Nat) (h : i < cs.length) (j : Nat) (hj : j < 6) : (rowQ cs)[i * 6 + j]? = (cs[i]).cellq[j]? := by
  induction cs generalizing i with
  | nil => simp at h
  | cons c cs ih =>
    have hl : c.cellq.length = 6 := rfl
    unfold rowQ at ih ⊢
    rw [List.flatMap_cons]
    cases i with
    | zero => rw [List.getElem?_append_left (by omega)]; simp
    | succ i =>
      rw [List.getElem?_append_right (by omega), show (i + 1) * 6 + j - c.cellq.length = i * 6 + j by omega]
      exact ih i (by simpa using h)
/-- q leads to the pairs cs, whose row is v -/
structure RdC (w : World) (q : Nat) (v : Value) (cs : List PrC) : Prop where
  blk : Blk w q 30 #[v]
  row : w.ownsRow 0 36 6 v cs.length (rowQ cs)
  trees : ∀ c ∈ cs, RowT w c.tv c.p.tree
def RFoot (q : Nat) (v : Value) (cs : List PrC) (k : Nat) : Prop := k = q ∨ v.ownBlock = some k ∨ ∃ c ∈ cs, c.tv.ownBlock = some k
section
variable {w : World} {q : Nat} {v : Value} {cs : List PrC}
theorem RdC.c0 (h : RdC w q v cs) : w.cell? ⟨q, 0, none⟩ = some v := by rw [h.blk.cell]; rfl
theorem RdC.foot_lt (h : RdC w q v cs) {k : Nat} (hk : RFoot q v cs k) : k < w.heap.size := by
  rcases hk with rfl | hk | ⟨c, hc, hk⟩
  · exact h.blk.lt
  · exact (h.row.lt k hk).2
  · exact ((h.trees c hc).lt k hk).2
theorem RdC.keep {w' : World} {S : Nat → Prop} (h : RdC w q v cs) (hu : Upd S w w') (hn : ∀ k, RFoot q v cs k → ¬ S k) : RdC w' q v cs :=
  ⟨h.blk.keep hu (hn _ (.inl rfl)), ownsRow_keep h.row hu (fun k hk => hn k (.inr (.inl hk))),
    fun c hc => (h.trees c hc).keep hu (fun k hk => hn k (.inr (.inr ⟨c, hc, hk⟩)))⟩
theorem RdC.ext {w' : World} (h : RdC w q v cs) (hb : Below w.heap.size w w') : RdC w' q v cs := h.keep (S := fun _ => False) (Upd.of_ext hb) (fun _ _ h => h)
theorem RdC.own_ne (h : RdC w q v cs) : v.ownBlock ≠ some q := fun e => by
  obtain ⟨cur, hb⟩ := own_blk h.row e
  exact Blk.ne_ hb h.blk (by decide) rfl
theorem RdC.form (h : RdC w q v cs) : ∃ A c, v = .slice A cs.length c ∧ cs.length ≤ c ∧ c ≤ maxLen ∧ (A = none → c = 0) ∧
    (0 < cs.length → ∃ g cur, A = some ⟨g, 0, none⟩ ∧ Blk w g 36 cur ∧ g < w.heap.size ∧ ∀ k (hk : k < cs.length), w.cell? ⟨g, k * 6, none⟩ = some (.int .i64 cs[k].p.rule) ∧ w.cell? ⟨g, k * 6 + 1, none⟩ = some (.int .i64 cs[k].p.place) ∧
      w.cell? ⟨g, k * 6 + 2, none⟩ = some (.bool cs[k].p.has) ∧ w.cell? ⟨g, k * 6 + 3, none⟩ = some (.int .i64 cs[k].p.end_) ∧ w.cell? ⟨g, k * 6 + 4, none⟩ = some (.int .i64 cs[k].p.level) ∧ w.cell? ⟨g, k * 6 + 5, none⟩ = some cs[k].tv) := by
  have h0 := h.row
  rcases h0.2 with ⟨rfl, h1⟩ | ⟨g, cap, cur, rfl, hb, hg, h1, h2, h3, h4⟩
  · exact ⟨none, 0, by rw [h1], by omega, by simp, fun _ => rfl, fun h => by omega⟩
  · refine ⟨some ⟨g, 0, none⟩, cap, rfl, h1, h2, by simp, fun hn => ⟨g, cur, rfl, hg, lt_of_some hg, fun k hk => ?_⟩⟩
    have key : ∀ j (hj : j < 6), w.cell? ⟨g, k * 6 + j, none⟩ = some ((cs[k]).cellq[j]'hj) := by
      intro j hj
      have := (World.ownsRow.cells h0 rfl) (k * 6 + j) _ ((rowQ_at cs k hk j hj).trans (List.getElem?_eq_getElem hj))
      rw [Addr.add_lit, Nat.zero_add] at this
      exact this
    exact ⟨key 0 (by omega), key 1 (by omega), key 2 (by omega), key 3 (by omega), key 4 (by omega), key 5 (by omega)⟩
end
theorem ownsRow_set {w : World} {t : TypeId} {sz n n' g cap o : Nat} {v : Value} {xs : List Value} (h : w.ownsRow 0 t sz v n xs) (hv : v = .slice (some ⟨g, 0, none⟩) n' cap) (ho : o < xs.length) (u : Value) :
    (w.setCell ⟨g, o, none⟩ u).ownsRow 0 t sz v n (xs.set o u) := by
  obtain ⟨hl, h⟩ := h
  refine ⟨by rw [List.length_set]; exact hl, ?_⟩
  rcases h with ⟨e, _⟩ | ⟨g', cap', cur, e, hb, hg, h1, h2, h3, h4⟩
  · rw [hv] at e; cases e
  · have he : g' = g := by rw [hv] at e; injection e with e _ _; injection e with e; injection e with e1 _ _; exact e1.symm
    subst he
    refine .inr ⟨g', cap', cur.setIfInBounds o u, e, hb, ?_, h1, h2, by simpa using h3, ?_⟩
    · simp [World.setCell, Array.getElem?_modify, hg]
    · rw [Array.toList_setIfInBounds, List.take_set, h4]

set_option maxRecDepth 100000 in
set_option maxHeartbeats 800000 in
theorem atR_any (q : Nat) (v : Value) (cs : List PrC) (r pl : Int) (w : World) (h : RdC w q v cs) :
    Calls Try.prog 23 #[.pointer (some ⟨q, 0, none⟩), .int .i64 r, .int .i64 pl] w fun e w' => e = .returned (.int .i64 (posOf (isP r pl) (prs cs))) ∧ w = w' := by
  have h1 := h.c0
  have hp := h.blk.lt
  obtain ⟨A, c, rfl, hc, hm, _, hcells⟩ := h.form
  unfold maxLen at hm
  have hlen := prs_length cs
  clear h
  go_enter Try.func23, Try.ntmps23
  go_wp2
  go_loopw [7] (fun i wr => ∃ k : Nat, k ≤ cs.length ∧ i = .int .i64 k ∧ w = wr ∧ ∀ j (hj : j < k) (hl : j < cs.length), isP r pl cs[j].p = false) (fun i _ => cs.length - (intOf i).toNat)
  case atStart => exact ⟨0, Nat.zero_le _, rfl, rfl, fun _ h => by omega⟩
  case round =>
    obtain ⟨k, hk, rfl, rfl, hno⟩ := hrel
    have HN := Lib.hid hno
    clear hno
    by_cases hlt : k < cs.length
    · obtain ⟨g, cur, rfl, _, hg, hcell⟩ := hcells (by omega)
      obtain ⟨g0, g1, _⟩ := hcell k hlt
      clear hcells hcell
      have HE := Lib.hid (show isP r pl cs[k].p = (cs[k].p.rule == r && cs[k].p.place == pl) from rfl)
      generalize hx : cs[k] = x at *
      have HX := Lib.hid hx
      clear hx
      by_cases hr : (x.p.rule == r) = true
      · by_cases hpl : (x.p.place == pl) = true
        · have HQ := Lib.hid (And.intro hr hpl)
          go_wp2
          go_ret
          refine ⟨ret_int (posOf_hit (k := k) (by omega) ?_ (fun j hj => ?_)).symm, rfl⟩
          · have : (prs cs)[k]'(by omega) = x.p := by simp [prs, HX.out]
            rw [this, HE.out, HQ.out.1, HQ.out.2]; rfl
          · have := HN.out j hj (by omega)
            simpa [prs] using this
        · have hpl' : (x.p.place == pl) = false := by simpa using hpl
          have HQ := Lib.hid (And.intro hr hpl')
          clear hpl
          go_wp2
          go_roundw
          case rel =>
            refine ⟨k + 1, by omega, by go_num, trivial, fun j hj hl => ?_⟩
            by_cases hjk : j = k
            · subst hjk; rw [HX.out, HE.out, HQ.out.1, HQ.out.2]; rfl
            · exact HN.out j (by omega) hl
          case measure => simp [intOf]; omega
      · have hr' : (x.p.rule == r) = false := by simpa using hr
        have HQ := Lib.hid hr'
        clear hr
        go_wp2
        go_roundw
        case rel =>
          refine ⟨k + 1, by omega, by go_num, trivial, fun j hj hl => ?_⟩
          by_cases hjk : j = k
          · subst hjk; rw [HX.out, HE.out, HQ.out]; rfl
          · exact HN.out j (by omega) hl
        case measure => simp [intOf]; omega
    · obtain rfl : k = cs.length := by omega
      go_wp2
      go_ret
      refine ⟨ret_int (posOf_none (fun j hj => ?_)).symm, rfl⟩
      have := HN.out j (by omega) (by omega)
      simpa [prs] using this

set_option maxRecDepth 100000 in
set_option maxHeartbeats 800000 in
theorem rbegin_twice (q : Nat) (v : Value) (cs : List PrC) (r pl : Int) (w : World) (h : RdC w q v cs) (hq : (prs cs).any (isP r pl) = true) :
    Calls Try.prog 10 #[.pointer (some ⟨q, 0, none⟩), .int .i64 r, .int .i64 pl] w fun e w' => e = .returned (.int .i64 8) ∧ w = w' := by
  have HA := Lib.hid (atR_any q v cs r pl w h)
  have hp : 0 ≤ posOf (isP r pl) (prs cs) := by
    have := posOf_ge (isP r pl) (prs cs)
    rw [hq] at this
    simpa using this
  generalize posOf (isP r pl) (prs cs) = x at *
  clear h hq
  go_enter Try.func10, Try.ntmps10
  go_wp2_with (first
    | (go_at_call 23; refine HA.out.mono ?_; rintro e w1 ⟨rfl, rfl⟩))
  go_ret
  exact ⟨rfl, rfl⟩
theorem RdC.push {w w2 : World} {q : Nat} {v v' : Value} {cs : List PrC} {c : PrC} (h : RdC w q v cs) (hrow : w2.ownsRow 0 36 6 v' (cs.length + 1) (rowQ cs ++ c.cellq)) (hu : Upd (fun k => v.ownBlock = some k) w w2)
    (hv : ∀ k, v'.ownBlock = some k → v.ownBlock = some k ∨ w.heap.size ≤ k) (hc : c.tv = .slice none 0 0 ∧ c.p.tree = []) :
    RdC (w2.setCell ⟨q, 0, none⟩ v') q v' (cs ++ [c]) ∧ Step (RFoot q v cs) (RFoot q v' (cs ++ [c])) w (w2.setCell ⟨q, 0, none⟩ v') := by
  have hs := setCell_upd w2 q 0 v'
  have hb2 : Blk w2 q 30 #[v] := h.blk.keep hu (fun e => h.own_ne e)
  have hq' : v'.ownBlock ≠ some q := fun e => by
    obtain ⟨cur, hb⟩ := own_blk hrow e
    exact Blk.ne_ hb hb2 (by decide) rfl
  refine ⟨⟨by simpa using hb2.set_ 0 v', ?_, fun d hd => ?_⟩, ⟨?_, fun k hk => ?_⟩⟩
  · rw [rowQ_snoc, List.length_append]
    exact ownsRow_keep hrow hs (fun k hk e => hq' (by rw [hk, e]))
  · rcases List.mem_append.1 hd with hd | hd
    · have hx := h.trees d hd
      have h2 := hx.keep hu (fun m hm e => by
        obtain ⟨cur, hb⟩ := own_blk h.row e
        exact hx.ne hb (by decide) hm)
      exact h2.keep hs (fun m hm e => by subst e; exact h2.ne hb2 (by decide) hm)
    · obtain rfl : d = c := by simpa using hd
      rw [hc.1, hc.2]
      exact RowT.nil _
  · exact (hu.mono (fun k _ hk => .inr (.inl hk))).setCell (p := ⟨q, 0, none⟩) (fun _ => .inl rfl) v'
  · rcases hk with rfl | hk | ⟨d, hd, hk⟩
    · exact .inl (.inl rfl)
    · exact (hv k hk).imp (fun h => .inr (.inl h)) id
    · rcases List.mem_append.1 hd with hd | hd
      · exact .inl (.inr (.inr ⟨d, hd, hk⟩))
      · obtain rfl : d = c := by simpa using hd
        rw [hc.1] at hk
        simp [Value.ownBlock] at hk
set_option maxRecDepth 100000 in
set_option maxHeartbeats 1600000 in
theorem rbegin_ok (q : Nat) (v : Value) (cs : List PrC) (r pl : Int) (w : World) (h : RdC w q v cs) (hq : (prs cs).any (isP r pl) = false) (hn : cs.length ≤ 1000000) :
    Calls Try.prog 10 #[.pointer (some ⟨q, 0, none⟩), .int .i64 r, .int .i64 pl] w fun e w' => e = .returned (.int .i64 0) ∧ ∃ v', RdC w' q v' (cs ++ [⟨newP r pl, .slice none 0 0⟩]) ∧ Step (RFoot q v cs) (RFoot q v' (cs ++ [⟨newP r pl, .slice none 0 0⟩])) w w' := by
  have HA := Lib.hid (atR_any q v cs r pl w h)
  have hp : posOf (isP r pl) (prs cs) < 0 := by
    have := posOf_ge (isP r pl) (prs cs)
    rw [hq] at this
    simpa using this
  generalize posOf (isP r pl) (prs cs) = x at *
  have c0 := h.c0
  have cl := h.blk.lt
  obtain ⟨A, c, rfl, _⟩ := h.form
  obtain ⟨i0, hi, hz0, hz1, hz2⟩ := info_parts (P := Try.prog) (e := 36) (z := .agg #[.int .i64 0, .int .i64 0, .bool false, .int .i64 0, .int .i64 0, .slice none 0 0]) (size := 6) (bytes := 64) (by kernel_rfl)
  have HR := Lib.hid h
  clear h hq
  go_enter Try.func10, Try.ntmps10
  go_wp2_with (first
    | (go_at_call 23; refine HA.out.mono ?_; rintro e w1 ⟨rfl, rfl⟩)
    | (at_builtin; (refine wpList_app rfl _ _ 28 rfl 36 i0 _ 6 64 Try.underlying28 hi hz0 hz1 hz2 rfl (by decide) (.slice A cs.length c) cs.length (rowQ cs) rfl (HR.out.row.alloc _) _ 1 1 (PrC.cellq ⟨newP r pl, .slice none 0 0⟩) rfl rfl (by simp) (cells_newA _ _ _ _ (by simp)) (by simp [Value.oneCell', PrC.cellq]) (by unfold maxLen; omega) (by omega) ?_)
       intro A2 c2 w2 hrow2 hu2 hv2 hz2'
       have hP := (HR.out.ext ((ext_refl w).alloc (Nat.le_refl _) (.cells (PrC.cellq ⟨newP r pl, .slice none 0 0⟩).toArray 36))).push hrow2 hu2 hv2 ⟨rfl, rfl⟩
       have hB2 := (HR.out.ext ((ext_refl w).alloc (Nat.le_refl _) (.cells (PrC.cellq ⟨newP r pl, .slice none 0 0⟩).toArray 36))).blk.keep hu2 (fun e => HR.out.own_ne e)
       have k0 := hB2.cell 0
       have kf := hB2.frozen 0
       have kl := hB2.lt
       have HP := Lib.hid hP
       clear hP hrow2 hu2 hv2 hz2' hB2))
  go_ret
  exact ⟨rfl, .slice A2 (cs.length + 1) c2, HP.out.1, (Step.ext ((ext_refl w).alloc (Nat.le_refl _) _)).trans HP.out.2⟩
end Go.Proofs.Ytchmlhceidociaa
