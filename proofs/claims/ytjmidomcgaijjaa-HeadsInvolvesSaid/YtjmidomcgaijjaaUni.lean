/- The stack's functions, each by one law: what stands in memory is apart from all else. -/
import Derived.Test.YtjmidomcgaijjaaCopy
import Derived.Test.YtjmidomcgaijjaaLeave
import Derived.Test.YtjmidomcgaijjaaPairs
namespace Go.Proofs.Ytjmidomcgaijjaa
set_option linter.unusedVariables false
open Go.RowKit

/-- p leads to the stack l, which lies within S -/
def HS (w : World) (p : Nat) (S : Nat → Prop) (l : List Fr) : Prop := ∃ v cs, StkC w p v cs ∧ frs cs = l ∧ S = Foot p v cs

/-- from w to w' only what lies in S was turned; T is of S or new -/
structure Step (S T : Nat → Prop) (w w' : World) : Prop where
  upd : Upd S w w'
  sub : ∀ k, T k → S k ∨ w.heap.size ≤ k
theorem Step.refl (S : Nat → Prop) (w : World) : Step S S w w := ⟨Upd.refl _ _, fun _ h => .inl h⟩
theorem Step.ext {S : Nat → Prop} {w w' : World} (h : Below w.heap.size w w') : Step S S w w' := ⟨Upd.of_ext h, fun _ h => .inl h⟩
theorem Step.trans {S T U : Nat → Prop} {a b c : World} (h : Step S T a b) (k : Step T U b c) : Step S U a c :=
  ⟨h.upd.trans' k.upd (fun i hi ht => (h.sub i ht).resolve_right (by omega)), fun i hi => by
    rcases k.sub i hi with h1 | h1
    · exact h.sub i h1
    · exact .inr (Nat.le_trans h.upd.size h1)⟩
theorem Step.far {S T : Nat → Prop} {w w' : World} (h : Step S T w w') {b : Nat} (hb : b < w.heap.size) (hn : ¬ S b) : ¬ T b := fun ht => (h.sub b ht).elim hn (by omega)
theorem Step.mono {S S' T : Nat → Prop} {w w' : World} (h : Step S T w w') (hs : ∀ k, S k → S' k) : Step S' T w w' := ⟨h.upd.mono (fun k _ hk => hs k hk), fun k hk => (h.sub k hk).imp (hs k) id⟩

theorem HS.keep {w w' : World} {p : Nat} {S U : Nat → Prop} {l : List Fr} (h : HS w p S l) (hu : Upd U w w') (hn : ∀ k, S k → ¬ U k) : HS w' p S l := by
  obtain ⟨v, cs, h1, h2, rfl⟩ := h
  exact ⟨v, cs, h1.keep hu hn, h2, rfl⟩
theorem HS.ext {w w' : World} {p : Nat} {S : Nat → Prop} {l : List Fr} (h : HS w p S l) (hb : Below w.heap.size w w') : HS w' p S l := h.keep (U := fun _ => False) (Upd.of_ext hb) (fun _ _ h => h)
theorem HS.lt {w : World} {p : Nat} {S : Nat → Prop} {l : List Fr} (h : HS w p S l) : p < w.heap.size ∧ S p := by
  obtain ⟨v, cs, h1, h2, rfl⟩ := h
  exact ⟨h1.lt, .inl rfl⟩
theorem HS.slt {w : World} {p : Nat} {S : Nat → Prop} {l : List Fr} (h : HS w p S l) : ∀ k, S k → k < w.heap.size := by
  obtain ⟨v, cs, h1, h2, rfl⟩ := h
  exact fun k hk => h1.foot_lt hk

/-- a block apart from S; a row of numbers apart from S -/
def Cel (S : Nat → Prop) (w : World) (b : Nat) (t : TypeId) (cs : Array Value) : Prop := Blk w b t cs ∧ ¬ S b
theorem Cel.step {S T : Nat → Prop} {w w' : World} {b : Nat} {t : TypeId} {cs : Array Value} (h : Cel S w b t cs) (st : Step S T w w') : Cel T w' b t cs :=
  ⟨h.1.keep st.upd h.2, st.far h.1.lt h.2⟩
def Own (S : Nat → Prop) (w : World) (v : Value) (l : List Int) : Prop := w.ownsRow 0 3 1 v l.length (l.map (Value.int .i64)) ∧ ∀ k, v.ownBlock = some k → ¬ S k
theorem Own.step {S T : Nat → Prop} {w w' : World} {v : Value} {l : List Int} (h : Own S w v l) (st : Step S T w w') : Own T w' v l :=
  ⟨ownsRow_keep h.1 st.upd h.2, fun k hk => st.far (h.1.lt k hk).2 (h.2 k hk)⟩
theorem Own.ints {S : Nat → Prop} {w : World} {v : Value} {l : List Int} (h : Own S w v l) : Ints w v l := Reads.of_own h.1
theorem ownsRow_base {w : World} {base base' sz n : Nat} {t : TypeId} {v : Value} {xs : List Value} (h : w.ownsRow base t sz v n xs) (hb : base' ≤ base) : w.ownsRow base' t sz v n xs := by
  obtain ⟨h1, h2⟩ := h
  refine ⟨h1, ?_⟩
  rcases h2 with h2 | ⟨g, cap, cur, e, hg, r⟩
  · exact .inl h2
  · exact .inr ⟨g, cap, cur, e, Nat.le_trans hb hg, r⟩
/-- what was made new lies apart -/
theorem Own.of_new {T : Nat → Prop} {w w' : World} {v : Value} {l : List Int} (h : w'.ownsRow w.heap.size 3 1 v l.length (l.map (Value.int .i64))) (hT : ∀ k, T k → k < w.heap.size) : Own T w' v l :=
  ⟨ownsRow_base h (Nat.zero_le _), fun k hk ht => by have := (h.lt k hk).1; have := hT k ht; omega⟩

/-- what is done, as rows -/
def newF (r pl : Int) : Fr := ⟨r, pl, [], [], false⟩
def enterA (l : List Fr) (r pl : Int) : Int × List Fr :=
  if standsAt l r pl then (8, l) else if lowOf l pl then (2, l) else (0, (l ++ [newF r pl]).map (touchF pl [r]))
def readB (l : List Fr) (r pl : Int) : Int × List Fr :=
  match l.findIdx? (isPair r pl) with
  | none => (5, l)
  | some k => (0, readA l k r pl)
def useA (l : List Fr) (pl : Int) (ts : List Int) : Int × List Fr := if lowOf l pl then (2, l) else (0, l.map (touchF pl ts))

theorem enter_uni (S : Nat → Prop) (l : List Fr) (r pl : Int) (p : Nat) (w : World) (hs : HS w p S l) (hn : l.length ≤ 1000000) :
    Calls Try.prog 21 #[.pointer (some ⟨p, 0, none⟩), .int .i64 r, .int .i64 pl] w fun e w' => ∃ T, e = .returned (.int .i64 (enterA l r pl).1) ∧ HS w' p T (enterA l r pl).2 ∧ Step S T w w' := by
  obtain ⟨v, cs, hc, rfl, rfl⟩ := hs
  have hg := posOf_ge (isPair r pl) (frs cs)
  have hl : (frs cs).length = cs.length := by simp [frs]
  cases hst : standsAt (frs cs) r pl with
  | true =>
    unfold standsAt at hst
    rw [hst] at hg
    refine (enter_twice cs v r pl p w hc (by simpa using hg)).mono ?_
    rintro e w' ⟨rfl, hb⟩
    refine ⟨Foot p v cs, by simp [enterA, standsAt, hst], ?_, Step.ext hb⟩
    simp only [enterA, standsAt, hst, if_true]
    exact ⟨v, cs, hc.ext hb, rfl, rfl⟩
  | false =>
    have hst' := hst
    unfold standsAt at hst
    rw [hst] at hg
    have hg' : posOf (isPair r pl) (frs cs) < 0 := by simpa using hg
    cases hlo : lowOf (frs cs) pl with
    | true =>
      refine (enter_low cs v r pl p w hc hg' hlo).mono ?_
      rintro e w' ⟨rfl, hb⟩
      refine ⟨Foot p v cs, by simp [enterA, hst', hlo], ?_, Step.ext hb⟩
      simp only [enterA, hst', hlo, if_true]
      exact ⟨v, cs, hc.ext hb, rfl, rfl⟩
    | false =>
      refine (enter_ok cs v r pl p w hc hg' hlo (by omega)).mono ?_
      rintro e w' ⟨rfl, v', cs', h1, h2, h3, h4⟩
      refine ⟨Foot p v' cs', by simp [enterA, hst', hlo], ⟨v', cs', h1, ?_, rfl⟩, h3, h4⟩
      simp only [enterA, hst', hlo, newF]
      exact h2

theorem read_uni (S : Nat → Prop) (l : List Fr) (r pl : Int) (p : Nat) (w : World) (hs : HS w p S l) :
    Calls Try.prog 23 #[.pointer (some ⟨p, 0, none⟩), .int .i64 r, .int .i64 pl] w fun e w' => ∃ T, e = .returned (.int .i64 (readB l r pl).1) ∧ HS w' p T (readB l r pl).2 ∧ Step S T w w' := by
  obtain ⟨v, cs, hc, rfl, rfl⟩ := hs
  have hl : (frs cs).length = cs.length := by simp [frs]
  cases hst : (frs cs).findIdx? (isPair r pl) with
  | none =>
    have hp : posOf (isPair r pl) (frs cs) = -1 := by unfold posOf; rw [hst]
    refine (read_none cs v r pl p w hc (by omega)).mono ?_
    rintro e w' ⟨rfl, hb⟩
    refine ⟨Foot p v cs, by simp [readB, hst], ?_, Step.ext hb⟩
    simp only [readB, hst]
    exact ⟨v, cs, hc.ext hb, rfl, rfl⟩
  | some k =>
    have hp : posOf (isPair r pl) (frs cs) = (k : Int) := by unfold posOf; rw [hst]
    have hk := (List.findIdx?_eq_some_iff_getElem.1 hst).1
    refine (read_ok cs v r pl p w hc k (by omega) hp).mono ?_
    rintro e w' ⟨rfl, cs', h1, h2, h3, h4⟩
    refine ⟨Foot p v cs, by simp [readB, hst], ⟨v, cs', h1, ?_, by unfold Foot; rw [h3]⟩, h4, fun k hk => .inl hk⟩
    simp only [readB, hst]
    exact h2

theorem use_uni (S : Nat → Prop) (l : List Fr) (ts : List Int) (lv : Value) (pl : Int) (p : Nat) (w : World) (hs : HS w p S l) (hl : Ints w lv ts) :
    Calls Try.prog 25 #[.pointer (some ⟨p, 0, none⟩), .int .i64 pl, lv] w fun e w' => ∃ T, e = .returned (.int .i64 (useA l pl ts).1) ∧ HS w' p T (useA l pl ts).2 ∧ Step S T w w' := by
  obtain ⟨v, cs, hc, rfl, rfl⟩ := hs
  cases hlo : lowOf (frs cs) pl with
  | true =>
    refine (use_low cs v lv pl p w hc hlo).mono ?_
    rintro e w' ⟨rfl, rfl⟩
    refine ⟨Foot p v cs, by simp [useA, hlo], ?_, Step.refl _ _⟩
    simp only [useA, hlo, if_true]
    exact ⟨v, cs, hc, rfl, rfl⟩
  | false =>
    refine (use_ok cs v lv ts pl p w hc hl hlo).mono ?_
    rintro e w' ⟨rfl, h1, h2⟩
    refine ⟨Foot p v cs, by simp [useA, hlo], ⟨v, _, h1, ?_, ?_⟩, h2.mono (fun k _ hk => .inr (.inr hk)), fun k hk => .inl hk⟩
    · simp only [useA, hlo]; exact frs_up _ _
    · unfold Foot
      have e := mapsOf_up cs cs.length (touchF pl ts)
      rw [mapTo_all] at e
      rw [e]

/-- what is told may be told: all within bounds -/
def Fine (l : List Fr) : Prop := ∀ f ∈ l, ((∀ x ∈ f.touched, i64 x) ∧ f.touched.length ≤ 1000000) ∧ ((∀ x ∈ f.involved, i64 x) ∧ f.involved.length ≤ 1000000)

theorem leave_uni0 (S : Nat → Prop) (p : Nat) (w : World) (hs : HS w p S []) :
    Calls Try.prog 27 #[.pointer (some ⟨p, 0, none⟩)] w fun e w' => e = .returned (.tuple #[.agg #[.int .i64 0, .int .i64 0, .slice none 0 0, .bool false], .int .i64 5]) ∧ HS w' p S [] ∧ Step S S w w' := by
  obtain ⟨v, cs, hc, hl, rfl⟩ := hs
  obtain rfl : cs = [] := by unfold frs at hl; simpa using hl
  refine (leave_none v p w hc).mono ?_
  rintro e w' ⟨rfl, hb⟩
  exact ⟨rfl, ⟨v, [], hc.ext hb, rfl, rfl⟩, Step.ext hb⟩

theorem leave_uni (S : Nat → Prop) (l : List Fr) (f : Fr) (p : Nat) (w : World) (hs : HS w p S (l ++ [f])) (hi : ∀ x ∈ f.touched, i64 x) (hn : f.touched.length ≤ 1000000) :
    Calls Try.prog 27 #[.pointer (some ⟨p, 0, none⟩)] w fun e w' => ∃ T u, e = .returned (.tuple #[.agg #[.int .i64 f.rule, .int .i64 f.place, u, .bool f.tainted], .int .i64 0]) ∧
      Own T w' u f.touched ∧ (∃ A c, u = .slice A f.touched.length c) ∧ HS w' p T l ∧ Step S T w w' := by
  obtain ⟨v, cs, hc, hl, rfl⟩ := hs
  obtain ⟨cs', c, rfl⟩ : ∃ cs' c, cs = cs' ++ [c] := by
    rcases List.eq_nil_or_concat cs with rfl | ⟨a, b, e⟩
    · simp [frs] at hl
    · exact ⟨a, b, by rw [e, List.concat_eq_append]⟩
  have hl' : frs cs' = l ∧ c.f = f := by
    unfold frs at hl ⊢
    rw [List.map_append] at hl
    have := List.append_inj' hl rfl
    exact ⟨this.1, by simpa using this.2⟩
  obtain ⟨rfl, rfl⟩ := hl'
  have hlt := fun k (hk : Foot p v (cs' ++ [c]) k) => hc.foot_lt hk
  refine (leave_ok cs' c v p w hc hi hn).mono ?_
  rintro e w' ⟨u, v', rfl, h1, h2, h3, h4⟩
  refine ⟨Foot p v' cs', u, rfl, Own.of_new h1 (fun k hk => hlt k (h4 k hk)), ownsRow_form h1, ⟨v', cs', h2, rfl, rfl⟩, h3.mono (fun k _ hk => ?_), fun k hk => .inl (h4 k hk)⟩
  subst hk
  exact .inl rfl

theorem tainted_uni (S : Nat → Prop) (l : List Fr) (p : Nat) (w : World) (hs : HS w p S l) :
    Calls Try.prog 13 #[.pointer (some ⟨p, 0, none⟩)] w fun e w' => e = .returned (.bool (taintedOf l)) ∧ ∃ n, w' = w.drewN n := by
  obtain ⟨v, cs, hc, rfl, rfl⟩ := hs
  exact tainted_any cs v p w hc

theorem free_uni (S : Nat → Prop) (l : List Fr) (ts : List Int) (lv : Value) (pl : Int) (p : Nat) (w : World) (hs : HS w p S l) (hl : Ints w lv ts) :
    Calls Try.prog 17 #[.pointer (some ⟨p, 0, none⟩), .int .i64 pl, lv] w fun e w' => e = .returned (.bool (!(ts.any fun r => standsAt l r pl))) ∧ Below w.heap.size w w' := by
  obtain ⟨v, cs, hc, rfl, rfl⟩ := hs
  exact free_any cs v lv ts pl p w hc hl

theorem involved_uni (S : Nat → Prop) (l : List Fr) (r pl : Int) (p : Nat) (w : World) (hs : HS w p S l) (hi : Fine l) :
    Calls Try.prog 11 #[.pointer (some ⟨p, 0, none⟩), .int .i64 r, .int .i64 pl] w fun e w' => ∃ u, e = .returned u ∧ (∃ A c, u = .slice A (involvedOf l r pl).length c) ∧ w'.ownsRow w.heap.size 3 1 u (involvedOf l r pl).length ((involvedOf l r pl).map (Value.int .i64)) ∧ Below w.heap.size w w' := by
  obtain ⟨v, cs, hc, rfl, rfl⟩ := hs
  have hl : (frs cs).length = cs.length := by simp [frs]
  cases hst : (frs cs).findIdx? (isPair r pl) with
  | none =>
    have hp : posOf (isPair r pl) (frs cs) = -1 := by unfold posOf; rw [hst]
    have hfd : (frs cs).find? (isPair r pl) = none := by
      rw [List.find?_eq_none]
      intro x hx
      have := List.findIdx?_eq_none_iff.1 hst x hx
      simp [this]
    have hin : involvedOf (frs cs) r pl = [] := by unfold involvedOf; rw [hfd]
    rw [hin]
    refine (involved_none cs v r pl p w hc (by omega)).mono ?_
    rintro e w' ⟨rfl, hb⟩
    exact ⟨_, rfl, ⟨_, _, rfl⟩, World.ownsRow_nil _ _ _ _, hb⟩
  | some k =>
    have hp : posOf (isPair r pl) (frs cs) = (k : Int) := by unfold posOf; rw [hst]
    obtain ⟨hk, hk1, hk2⟩ := List.findIdx?_eq_some_iff_getElem.1 hst
    have hk' : k < cs.length := by omega
    have hg : (frs cs)[k] = cs[k].f := by simp [frs]
    have hfd : (frs cs).find? (isPair r pl) = some cs[k].f := by
      rw [List.find?_eq_some_iff_getElem]
      refine ⟨by rw [← hg]; exact hk1, k, hk, hg, fun j hj => by simpa using hk2 j hj⟩
    have hin : involvedOf (frs cs) r pl = cs[k].f.involved := by unfold involvedOf; rw [hfd]
    have hfi := hi cs[k].f (List.mem_map.2 ⟨_, List.getElem_mem hk', rfl⟩)
    rw [hin]
    refine (involved_some cs v r pl p w hc k hk' hp hfi.2.1 hfi.2.2).mono ?_
    rintro e w' ⟨u, rfl, h1, h2⟩
    exact ⟨u, rfl, ownsRow_form h1, h1, h2⟩

theorem pairs_uni (S : Nat → Prop) (l : List Fr) (p : Nat) (w : World) (hs : HS w p S l) (hn : l.length ≤ 1000000) :
    Calls Try.prog 54 #[.pointer (some ⟨p, 0, none⟩)] w fun e w' => ∃ u, e = .returned u ∧ w'.ownsRow 0 63 2 u l.length (l.flatMap pairCells) ∧ Below w.heap.size w w' := by
  obtain ⟨v, cs, hc, rfl, rfl⟩ := hs
  have hl : (frs cs).length = cs.length := by simp [frs]
  rw [hl] at hn ⊢
  exact pairs_any cs v p w hc hn

theorem copy_uni (S : Nat → Prop) (l : List Fr) (p : Nat) (w : World) (hs : HS w p S l) (hn : l.length ≤ 1000000) :
    Calls Try.prog 30 #[.pointer (some ⟨p, 0, none⟩)] w fun e w' => ∃ q T, e = .returned (.pointer (some ⟨q, 0, none⟩)) ∧ HS w' q T l ∧ (∀ b, T b → w.heap.size ≤ b) ∧ Below w.heap.size w w' := by
  obtain ⟨v, cs, hc, rfl, rfl⟩ := hs
  have hl : (frs cs).length = cs.length := by simp [frs]
  refine (copy_any cs v p w hc (by omega)).mono ?_
  rintro e w' ⟨q, u, cs', rfl, h1, h2, h3, h4⟩
  exact ⟨q, Foot q u cs', rfl, ⟨u, cs', h1, h2, rfl⟩, h3, h4⟩

theorem new_uni (w : World) :
    Calls Try.prog 9 #[] w fun e w' => ∃ p T, e = .returned (.pointer (some ⟨p, 0, none⟩)) ∧ HS w' p T [] ∧ (∀ b, T b → w.heap.size ≤ b) ∧ Below w.heap.size w w' := by
  refine (new_any w).mono ?_
  rintro e w' ⟨rfl, h1, h2, h3⟩
  refine ⟨w.heap.size, Foot w.heap.size (.slice none 0 0) [], rfl, ⟨_, [], h1, rfl, rfl⟩, ?_, h2⟩
  rintro b (rfl | h | h)
  · exact Nat.le_refl _
  · simp [Value.ownBlock] at h
  · simp [mapsOf] at h
end Go.Proofs.Ytjmidomcgaijjaa
