/- The document's store: its methods by one law each. -/
import Derived.Test.YtchmlhceidociaaRdL
namespace Go.Proofs.Ytchmlhceidociaa
set_option linter.unusedVariables false
set_option linter.unusedSimpArgs false
open Go.RowKit

/-- q leads to the document's pairs l, which lie within S -/
def RS (w : World) (q : Nat) (S : Nat → Prop) (l : List Pr) : Prop := ∃ v cs, RdC w q v cs ∧ prs cs = l ∧ S = RFoot q v cs
theorem RS.keep {w w' : World} {q : Nat} {S U : Nat → Prop} {l : List Pr} (h : RS w q S l) (hu : Upd U w w') (hn : ∀ k, S k → ¬ U k) : RS w' q S l := by
  obtain ⟨v, cs, h1, h2, rfl⟩ := h
  exact ⟨v, cs, h1.keep hu hn, h2, rfl⟩
theorem RS.ext {w w' : World} {q : Nat} {S : Nat → Prop} {l : List Pr} (h : RS w q S l) (hb : Below w.heap.size w w') : RS w' q S l := h.keep (U := fun _ => False) (Upd.of_ext hb) (fun _ _ h => h)
theorem RS.lt {w : World} {q : Nat} {S : Nat → Prop} {l : List Pr} (h : RS w q S l) : q < w.heap.size ∧ S q := by
  obtain ⟨v, cs, h1, h2, rfl⟩ := h
  exact ⟨h1.blk.lt, .inl rfl⟩
theorem RS.slt {w : World} {q : Nat} {S : Nat → Prop} {l : List Pr} (h : RS w q S l) : ∀ k, S k → k < w.heap.size := by
  obtain ⟨v, cs, h1, h2, rfl⟩ := h
  exact fun k hk => h1.foot_lt hk
theorem rnew (w : World) (q : Nat) (h : Blk w q 30 #[.slice none 0 0]) : RS w q (· = q) [] :=
  ⟨.slice none 0 0, [], ⟨h, World.ownsRow_nil _ _ _ _, by simp⟩, rfl, by
    funext k
    simp [RFoot, Value.ownBlock]⟩
/-- what is read of it -/
theorem RS.form {w : World} {q : Nat} {S : Nat → Prop} {l : List Pr} (h : RS w q S l) : ∃ A c, w.cell? ⟨q, 0, none⟩ = some (.slice A l.length c) ∧ q < w.heap.size ∧ l.length ≤ c ∧ c ≤ maxLen ∧ (A = none → c = 0) ∧
    (0 < l.length → ∃ g, A = some ⟨g, 0, none⟩ ∧ g < w.heap.size ∧ ∀ k (hk : k < l.length), w.cell? ⟨g, k * 6, none⟩ = some (.int .i64 l[k].rule) ∧ w.cell? ⟨g, k * 6 + 1, none⟩ = some (.int .i64 l[k].place) ∧
      w.cell? ⟨g, k * 6 + 2, none⟩ = some (.bool l[k].has) ∧ w.cell? ⟨g, k * 6 + 3, none⟩ = some (.int .i64 l[k].end_) ∧ w.cell? ⟨g, k * 6 + 4, none⟩ = some (.int .i64 l[k].level) ∧ ∃ B d, w.cell? ⟨g, k * 6 + 5, none⟩ = some (.slice B l[k].tree.length d)) := by
  obtain ⟨v, cs, h1, rfl, rfl⟩ := h
  obtain ⟨A, c, rfl, a1, a2, a3, a4⟩ := h1.form
  have h0 := h1.c0
  have e0 := prs_length cs
  refine ⟨A, c, by rw [e0]; exact h0, h1.blk.lt, by rw [e0]; exact a1, a2, a3, fun hn => ?_⟩
  rw [e0] at hn
  obtain ⟨g, cur, rfl, _, hg, hc⟩ := a4 hn
  refine ⟨g, rfl, hg, fun k hk' => ?_⟩
  have hk : k < cs.length := by rw [← e0]; exact hk'
  have e : (prs cs)[k]'hk' = cs[k].p := by simp [prs]
  obtain ⟨g0, g1, g2, g3, g4, g5⟩ := hc k hk
  obtain ⟨B, d, hB⟩ := (h1.trees _ (List.getElem_mem hk)).form
  rw [e]
  exact ⟨g0, g1, g2, g3, g4, B, d, by rw [g5, hB]⟩

theorem beginR_uni {w : World} {q : Nat} {S : Nat → Prop} {l : List Pr} (r pl : Int) (hs : RS w q S l) (hn : l.length ≤ 1000000) :
    Calls Try.prog 10 #[.pointer (some ⟨q, 0, none⟩), .int .i64 r, .int .i64 pl] w fun e w' => ∃ T, e = .returned (.int .i64 (beginA l r pl).1) ∧ RS w' q T (beginA l r pl).2 ∧ Step S T w w' := by
  obtain ⟨v, cs, hc, rfl, rfl⟩ := hs
  unfold beginA
  cases hq : (prs cs).any (isP r pl) with
  | true =>
    refine (rbegin_twice q v cs r pl w hc hq).mono ?_
    rintro e w' ⟨rfl, rfl⟩
    exact ⟨RFoot q v cs, rfl, ⟨v, cs, hc, rfl, rfl⟩, Step.refl _ _⟩
  | false =>
    refine (rbegin_ok q v cs r pl w hc hq (by rw [prs_length] at hn; exact hn)).mono ?_
    rintro e w' ⟨rfl, v', h1, h2⟩
    exact ⟨_, rfl, ⟨v', _, h1, by rw [prs_snoc]; rfl, rfl⟩, h2⟩
theorem growR_uni {w : World} {q : Nat} {S : Nat → Prop} {l : List Pr} (en lv : Int) (tv : Value) (ts : List Twg) (hs : RS w q S l) (ht : Twgs w tv ts) (hn : ts.length ≤ 1000000) :
    Calls Try.prog 12 #[.pointer (some ⟨q, 0, none⟩), .int .i64 en, .int .i64 lv, tv] w fun e w' => ∃ T, e = .returned (.int .i64 (growA l en lv ts).1) ∧ RS w' q T (growA l en lv ts).2 ∧ Step S T w w' := by
  obtain ⟨v, cs, hc, rfl, rfl⟩ := hs
  rcases List.eq_nil_or_concat cs with rfl | ⟨cs', c, rfl⟩
  · refine (rgrow_none q v en lv tv w hc).mono ?_
    rintro e w' ⟨rfl, rfl⟩
    exact ⟨RFoot q v [], rfl, ⟨v, [], hc, rfl, rfl⟩, Step.refl _ _⟩
  · rw [List.concat_eq_append] at hc ⊢
    have hg : growA (prs (cs' ++ [c])) en lv ts = if furtherB c.p en lv then (0, prs cs' ++ [{ c.p with has := true, end_ := en, level := lv, tree := ts }]) else (2, prs (cs' ++ [c])) := by
      unfold growA
      rw [prs_snoc]
      simp
    refine (rgrow_some q v cs' c en lv tv ts w hc ht hn (fun r w' => r = (growA (prs (cs' ++ [c])) en lv ts).1 ∧ ∃ T, RS w' q T (growA (prs (cs' ++ [c])) en lv ts).2 ∧ Step (RFoot q v (cs' ++ [c])) T w w') (fun hf w' hb => ?_) (fun hf w' u h1 h2 => ?_)).mono ?_
    · rw [hg, hf]
      exact ⟨rfl, RFoot q v (cs' ++ [c]), ⟨v, _, hc.ext hb, rfl, rfl⟩, Step.ext hb⟩
    · rw [hg, hf]
      exact ⟨rfl, _, ⟨v, _, h1, by rw [prs_snoc]; rfl, rfl⟩, h2⟩
    · rintro e w' ⟨r, rfl, rfl, T, h1, h2⟩
      exact ⟨T, rfl, h1, h2⟩
theorem endR_uni {w : World} {q : Nat} {S : Nat → Prop} {l : List Pr} (hs : RS w q S l) :
    Calls Try.prog 14 #[.pointer (some ⟨q, 0, none⟩)] w fun e w' => ∃ T, e = .returned (.int .i64 (endA l).1) ∧ RS w' q T (endA l).2 ∧ Step S T w w' := by
  obtain ⟨v, cs, hc, rfl, rfl⟩ := hs
  rcases List.eq_nil_or_concat cs with rfl | ⟨cs', c, rfl⟩
  · refine (rend_none q v w hc).mono ?_
    rintro e w' ⟨rfl, rfl⟩
    exact ⟨RFoot q v [], rfl, ⟨v, [], hc, rfl, rfl⟩, Step.refl _ _⟩
  · rw [List.concat_eq_append] at hc ⊢
    have hg : endA (prs (cs' ++ [c])) = (0, prs cs') := by
      unfold endA
      rw [prs_snoc]
      simp
    rw [hg]
    refine (rend_some q v cs' c w hc).mono ?_
    rintro e w' ⟨rfl, v', h1, h2⟩
    exact ⟨_, rfl, ⟨v', cs', h1, rfl, rfl⟩, h2⟩
theorem readR_uni {w : World} {q : Nat} {S : Nat → Prop} {l : List Pr} (r pl lv : Int) (hs : RS w q S l) :
    Calls Try.prog 36 #[.pointer (some ⟨q, 0, none⟩), .int .i64 r, .int .i64 pl, .int .i64 lv] w fun e w' => ∃ (x : Pr) (A : Option Addr) (n c : Nat), e = .returned (.tuple #[.agg #[.int .i64 x.rule, .int .i64 x.place, .bool x.has, .int .i64 (readA l r pl lv).1.end_, .int .i64 (readA l r pl lv).1.level, .slice A n c], .int .i64 (readA l r pl lv).2]) ∧
      RowT w' (.slice A n c) (readA l r pl lv).1.tree ∧ Below w.heap.size w w' := by
  obtain ⟨v, cs, hc, rfl, rfl⟩ := hs
  exact rread_any q v cs r pl lv w hc
theorem liveR_uni {w : World} {q : Nat} {S : Nat → Prop} {l : List Pr} (pl : Int) (hs : RS w q S l) (hn : l.length ≤ 1000000) :
    Calls Try.prog 34 #[.pointer (some ⟨q, 0, none⟩), .int .i64 pl] w fun e w' => ∃ u, e = .returned u ∧ w'.ownsRow 0 3 1 u (liveL l pl).length ((sortL (liveL l pl)).map (Value.int .i64)) ∧ Below w.heap.size w w' := by
  obtain ⟨v, cs, hc, rfl, rfl⟩ := hs
  exact rlive_any q v cs pl w hc (by rw [prs_length] at hn; exact hn)
end Go.Proofs.Ytchmlhceidociaa
