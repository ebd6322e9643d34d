/- HeadsInvolves: the rows of rules that the law keeps, and what they say. -/
import Derived.Test.YtjmidomcgaijjaaStart
namespace Go.Proofs.Ytjmidomcgaijjaa
set_option linter.unusedVariables false
set_option linter.unusedSimpArgs false
open Go.RowKit

/-- what a step leaves, in three cases -/
theorem hdo_cases {H : Hist} {I : List (List Int)} {n : Nat} (x : Stp) (ht : Tm H I n) (H' : Hist) (I' : List (List Int)) (e : hdo n x (H, I) = (H', I')) :
    (H'.l.length = H.l.length + 1 ∧ H'.reads.length = H.reads.length ∧ I' = I ++ [[]]) ∨
    (H'.l = H.l ∧ ∃ a : Nat, a < H.l.length ∧ H'.reads = H.reads ++ [⟨n, a⟩] ∧ I' = readI H I a) ∨
    (H'.l.length ≤ H.l.length ∧ H'.reads.length = H.reads.length ∧ I' = I.take H'.l.length) := by
  have hI : I.take H.l.length = I := List.take_of_length_le (by rw [ht.li]; exact Nat.le_refl _)
  have same : (H, I) = (H', I') → (H'.l.length ≤ H.l.length ∧ H'.reads.length = H.reads.length ∧ I' = I.take H'.l.length) := by
    intro e
    obtain ⟨rfl, rfl⟩ := Prod.mk.inj e
    exact ⟨Nat.le_refl _, rfl, hI.symm⟩
  have ent : ∀ P, (if posOf (isSt x.rule P) H.l < 0 then (({ H with l := H.l ++ [⟨x.rule, P, n⟩], touches := H.touches ++ [⟨n, x.rule, P⟩] }, I ++ [[]]) : HI) else (H, I)) = (H', I') →
      (H'.l.length = H.l.length + 1 ∧ H'.reads.length = H.reads.length ∧ I' = I ++ [[]]) ∨ (H'.l.length ≤ H.l.length ∧ H'.reads.length = H.reads.length ∧ I' = I.take H'.l.length) := by
    intro P e
    split at e
    · obtain ⟨rfl, rfl⟩ := Prod.mk.inj e
      exact .inl ⟨by simp, rfl, rfl⟩
    · exact .inr (same e)
  unfold hdo at e
  split at e
  · have := ent _ e
    rcases this with h | h
    · exact .inl h
    · exact .inr (.inr h)
  · split at e
    · obtain ⟨rfl, rfl⟩ := Prod.mk.inj e
      refine .inr (.inr ⟨by simp, rfl, ?_⟩)
      have : (H.l.take (H.l.length - 1)).length = H.l.length - 1 := by simp
      rw [this]
    · split at e
      · unfold hRead at e
        dsimp only at e
        split at e
        · exact .inr (.inr (same e))
        · rename_i hp
          obtain ⟨k, ek, hk⟩ := posOf_lt (Int.not_lt.1 hp)
          obtain ⟨rfl, rfl⟩ := Prod.mk.inj e
          refine .inr (.inl ⟨rfl, k, hk, ?_, ?_⟩)
          · show H.reads ++ _ = _; rw [ek]
          · rw [ek]; rfl
      · unfold hUse at e
        dsimp only at e
        split at e
        · exact .inr (.inr (same e))
        · obtain ⟨rfl, rfl⟩ := Prod.mk.inj e
          exact .inr (.inr ⟨Nat.le_refl _, rfl, hI.symm⟩)

/-- what is involved in the one that stands as the i-th -/
theorem involved_frs {H : Hist} {I : List (List Int)} {n : Nat} (ht : Tm H I n) (i : Nat) (hi : i < H.l.length) : involvedOf (frsOf H I) H.l[i].rule H.l[i].place = insAll (I.getD i []) [] := by
  have hf : (frsOf H I).find? (isPair H.l[i].rule H.l[i].place) = some (frOf H I i H.l[i]) := by
    rw [List.find?_eq_some_iff_getElem]
    refine ⟨by simp [isPair, frOf], i, by rw [frsOf_length]; exact hi, frsOf_at H I i hi, fun j hj => ?_⟩
    rw [frsOf_at H I j (by omega)]
    have := List.pairwise_iff_getElem.1 ht.apart j i (by omega) hi hj
    simp only [isPair, frOf, Bool.not_eq_true', Bool.and_eq_false_iff, beq_eq_false_iff_ne, ne_eq]
    by_cases h1 : H.l[j].rule = H.l[i].rule
    · exact .inr (fun h2 => this ⟨h1, h2⟩)
    · exact .inl h1
  unfold involvedOf
  rw [hf]; rfl
theorem fine_frs {H : Hist} {I : List (List Int)} {n : Nat} (ht : Tm H I n) (hn : n ≤ 200) : Fine (frsOf H I) := by
  intro f hf
  obtain ⟨i, hi, rfl⟩ := List.mem_mapIdx.1 hf
  have hsq : n * n ≤ 200 * 200 := Nat.mul_le_mul hn hn
  refine ⟨⟨fun x hx => ?_, ?_⟩, fun x hx => ?_, ?_⟩
  · obtain ⟨t, h1, _, _, rfl⟩ := mem_tset.1 hx
    exact (ht.touches t h1).2
  · have := length_tset H.touches H.l[i]
    have := ht.lt
    show (tset H.touches H.l[i]).length ≤ _
    omega
  · have hx : x ∈ insAll (I.getD i []) [] := hx
    rcases mem_insAll.1 hx with hx | hx
    · have hii : i < I.length := by rw [ht.li]; exact hi
      have e : I.getD i [] = I[i] := by simp [List.getD, hii]
      rw [e] at hx
      exact (ht.inv _ (List.getElem_mem hii)).2 x hx
    · simp at hx
  · show (insAll (I.getD i []) []).length ≤ _
    have hii : i < I.length := by rw [ht.li]; exact hi
    have e : I.getD i [] = I[i] := by simp [List.getD, hii]
    have := length_insAll (I.getD i []) []
    have := (ht.inv _ (List.getElem_mem hii)).1
    rw [e] at *
    simp at *
    omega

/-- the rows in memory -/
structure InC (w : World) (base : Nat) (v : Value) (vs : List Value) (I : List (List Int)) : Prop where
  row : w.ownsRow 0 38 1 v I.length vs
  each : ∀ i (h : i < I.length), ∃ u, vs[i]? = some u ∧ w.ownsRow 0 3 1 u I[i].length (I[i].map (Value.int .i64))
  apart : ∀ (i j : Nat) (u u' : Value) (k : Nat), i ≠ j → vs[i]? = some u → vs[j]? = some u' → u.ownBlock = some k → u'.ownBlock ≠ some k
  lo : (∀ k, v.ownBlock = some k → base ≤ k) ∧ ∀ u ∈ vs, ∀ k, u.ownBlock = some k → base ≤ k
def InFoot (v : Value) (vs : List Value) (k : Nat) : Prop := v.ownBlock = some k ∨ ∃ u ∈ vs, u.ownBlock = some k
section
variable {w w' : World} {base : Nat} {v : Value} {vs : List Value} {I : List (List Int)}
theorem InC.len (h : InC w base v vs I) : vs.length = I.length := by have := h.row.1; omega
theorem InC.at (h : InC w base v vs I) {u : Value} (hu : u ∈ vs) : ∃ l : List Int, w.ownsRow 0 3 1 u l.length (l.map (Value.int .i64)) := by
  obtain ⟨i, hi, e⟩ := List.getElem_of_mem hu
  obtain ⟨u', h1, h2⟩ := h.each i (by rw [← h.len]; exact hi)
  rw [List.getElem?_eq_getElem hi, e] at h1
  obtain rfl := Option.some.inj h1
  exact ⟨_, h2⟩
theorem InC.kind (h : InC w base v vs I) {k : Nat} (hk : InFoot v vs k) : ∃ t cs, (t = 38 ∨ t = 3) ∧ Blk w k t cs := by
  rcases hk with hk | ⟨u, hu, hk⟩
  · obtain ⟨cs, hb⟩ := own_blk h.row hk; exact ⟨_, _, .inl rfl, hb⟩
  · obtain ⟨l, hl⟩ := h.at hu
    obtain ⟨cs, hb⟩ := own_blk hl hk; exact ⟨_, _, .inr rfl, hb⟩
theorem InC.keep {S : Nat → Prop} (h : InC w base v vs I) (hu : Upd S w w') (hn : ∀ k, InFoot v vs k → ¬ S k) : InC w' base v vs I :=
  ⟨ownsRow_keep h.row hu (fun k hk => hn k (.inl hk)), fun i hi => by
    obtain ⟨u, h1, h2⟩ := h.each i hi
    exact ⟨u, h1, ownsRow_keep h2 hu (fun k hk => hn k (.inr ⟨u, List.mem_of_getElem? h1, hk⟩))⟩, h.apart, h.lo⟩
theorem InC.ext (h : InC w base v vs I) (hb : Below w.heap.size w w') : InC w' base v vs I := h.keep (S := fun _ => False) (Upd.of_ext hb) (fun _ _ h => h)
theorem InC.not {q p : Nat} {F : Nat → Prop} {H : Hist} {l : List Fr} (h : InC w base v vs I) (hh : HH w q p F H l) {k : Nat} (hk : InFoot v vs k) : ¬ F k := by
  obtain ⟨t, cs, ht, hb⟩ := h.kind hk
  rcases ht with rfl | rfl <;> exact hh.not hb (by decide)
theorem InC.nil (w : World) (base : Nat) : InC w base (.slice none 0 0) [] [] :=
  ⟨World.ownsRow_nil _ _ _ _, fun i h => by simp at h, fun i j u u' k _ h => by simp at h, fun k hk => by simp [Value.ownBlock] at hk, by simp⟩
/-- one row more, empty -/
theorem InC.push {w1 : World} {v' : Value} (h : InC w base v vs I) (hb : base ≤ w.heap.size) (hrow : w1.ownsRow 0 38 1 v' (I.length + 1) (vs ++ [.slice none 0 0]))
    (hu : Upd (fun k => v.ownBlock = some k) w w1) (hv : ∀ k, v'.ownBlock = some k → v.ownBlock = some k ∨ w.heap.size ≤ k) : InC w1 base v' (vs ++ [.slice none 0 0]) (I ++ [[]]) := by
  have hl := h.len
  have hne : ∀ u ∈ vs, ∀ k, u.ownBlock = some k → ¬ v.ownBlock = some k := fun u hu k hk e => by
    obtain ⟨l, hl⟩ := h.at hu
    obtain ⟨cs, hb1⟩ := own_blk hl hk
    obtain ⟨cs', hb2⟩ := own_blk h.row e
    exact Blk.ne_ hb1 hb2 (by decide) rfl
  refine ⟨by simpa using hrow, fun i hi => ?_, ?_, ?_, ?_⟩
  · by_cases hlt : i < I.length
    · obtain ⟨u, h1, h2⟩ := h.each i hlt
      refine ⟨u, by rw [List.getElem?_append_left (by omega)]; exact h1, ?_⟩
      rw [List.getElem_append_left hlt]
      exact ownsRow_keep h2 hu (hne u (List.mem_of_getElem? h1))
    · obtain rfl : i = I.length := by simp at hi; omega
      refine ⟨.slice none 0 0, by rw [← hl]; simp, ?_⟩
      have e : (I ++ [[]])[I.length]'hi = [] := by simp
      rw [e]
      exact World.ownsRow_nil _ _ _ _
  · intro i j u u' k hij h1 h2 hk hk'
    have hi : ∀ (i : Nat) (u : Value), (vs ++ [Value.slice none 0 0])[i]? = some u → u.ownBlock = some k → vs[i]? = some u := by
      intro i u h1 hk
      by_cases hlt : i < vs.length
      · rwa [List.getElem?_append_left hlt] at h1
      · rw [List.getElem?_append_right (by omega)] at h1
        have : u = .slice none 0 0 := by
          cases hd : i - vs.length with
          | zero => rw [hd] at h1; simpa using h1.symm
          | succ m => rw [hd] at h1; simp at h1
        subst this
        simp [Value.ownBlock] at hk
    exact h.apart i j u u' k hij (hi i u h1 hk) (hi j u' h2 hk') hk hk'
  · intro k hk
    rcases hv k hk with hk | hk
    · exact h.lo.1 k hk
    · omega
  · intro u hu' k hk
    rcases List.mem_append.1 hu' with hu' | hu'
    · exact h.lo.2 u hu' k hk
    · obtain rfl : u = .slice none 0 0 := by simpa using hu'
      simp [Value.ownBlock] at hk
/-- fewer rows -/
theorem InC.cut {g c : Nat} {n : Nat} (h : InC w base (.slice (some ⟨g, 0, none⟩) n c) vs I) (hn : n = I.length) (m : Nat) (hm : m ≤ n) : InC w base (.slice (some ⟨g, 0, none⟩) m c) (vs.take m) (I.take m) := by
  subst hn
  have h2 : (I.take m).length = m := by rw [List.length_take]; omega
  refine ⟨?_, fun i hi => ?_, ?_, ?_, ?_⟩
  · have := ownsRow_cut h.row hm
    rw [h2]
    simpa using this
  · rw [h2] at hi
    obtain ⟨u, h1, h3⟩ := h.each i (by omega)
    refine ⟨u, by rw [List.getElem?_take, if_pos hi]; exact h1, ?_⟩
    rw [List.getElem_take]
    exact h3
  · intro i j u u' k hij h1 h3
    have ht : ∀ {i : Nat} {u : Value}, (vs.take m)[i]? = some u → vs[i]? = some u := by
      intro i u h
      rw [List.getElem?_take] at h
      split at h
      · exact h
      · cases h
    exact h.apart i j u u' k hij (ht h1) (ht h3)
  · intro k hk
    exact h.lo.1 k (by simpa [Value.ownBlock] using hk)
  · intro u hu; exact h.lo.2 u (List.mem_of_mem_take hu)
end
theorem row_cell {w : World} {t : TypeId} {A : Option Addr} {n m c : Nat} {vs : List Value} {i : Nat} {u : Value} (h : w.ownsRow 0 t 1 (.slice A n c) m vs) (hu : vs[i]? = some u) :
    ∃ g, A = some ⟨g, 0, none⟩ ∧ g < w.heap.size ∧ n = m ∧ n ≤ c ∧ c ≤ maxLen ∧ w.cell? ⟨g, i, none⟩ = some u := by
  have hi : i < vs.length := (List.getElem?_eq_some_iff.1 hu).1
  have hl := h.1
  rcases h.2 with ⟨e, e2⟩ | ⟨g, cap, cur, e, _, hg, h1, h2, h3, h4⟩
  · omega
  · injection e with e1 e2 e3
    subst e1 e2 e3
    have hc := (World.ownsRow.cells h rfl) i u hu
    refine ⟨g, rfl, lt_of_some hg, rfl, h1, h2, ?_⟩
    rw [Addr.add_lit, Nat.zero_add] at hc
    exact hc
theorem row_some {w : World} {t : TypeId} {A : Option Addr} {n m c : Nat} {vs : List Value} (h : w.ownsRow 0 t 1 (.slice A n c) m vs) : (A = none ∧ n = 0 ∧ m = 0 ∧ c = 0) ∨ ∃ g, A = some ⟨g, 0, none⟩ ∧ n = m ∧ n ≤ c := by
  rcases h.2 with ⟨e, e2⟩ | ⟨g, cap, cur, e, _, hg, h1, h2, h3, h4⟩
  · injection e with e1 e2' e3
    exact .inl ⟨e1, e2', e2, e3⟩
  · injection e with e1 e2 e3
    subst e1 e2 e3
    exact .inr ⟨g, rfl, rfl, h1⟩
theorem row_head {w : World} {t : TypeId} {A : Option Addr} {n m c : Nat} {vs : List Value} (h : w.ownsRow 0 t 1 (.slice A n c) m vs) (h0 : 0 < m) : ∃ g, A = some ⟨g, 0, none⟩ ∧ n ≤ c := by
  rcases h.2 with ⟨e, e2⟩ | ⟨g, cap, cur, e, _, hg, h1, h2, h3, h4⟩
  · omega
  · injection e with e1 e2 e3
    subst e1 e2 e3
    exact ⟨g, rfl, h1⟩
theorem HH.keepU {w w' : World} {q p : Nat} {F S : Nat → Prop} {H : Hist} {l : List Fr} (h : HH w q p F H l) (hu : Upd S w w') (hn : ∀ k, F k → ¬ S k) : HH w' q p F H l := by
  obtain ⟨T, vl, vr, vt, h1, h2, rfl⟩ := h
  exact ⟨T, vl, vr, vt, h1.keep hu (fun k hk => hn k (.inr hk)), h2.keep hu (fun k hk => hn k (.inl hk)), rfl⟩
theorem Car.side {w0 w w' : World} {F S : Nat → Prop} (h : Car w0 F w) (hu : Upd S w w') (hS : ∀ k, S k → w0.heap.size ≤ k) : Car w0 F w' :=
  ⟨h.1.trans (hu.below h.1.size (fun k hk hs => by have := hS k hs; omega)), h.2⟩
/-- a number more in one row -/
theorem InC.add {w w1 : World} {base : Nat} {g n c : Nat} {vs : List Value} {I : List (List Int)} {i : Nat} {u u' : Value} {x : Int} (h : InC w base (.slice (some ⟨g, 0, none⟩) n c) vs I) (hb : base ≤ w.heap.size) (hi : i < I.length) (hu : vs[i]? = some u)
    (hrow : w1.ownsRow 0 3 1 u' (I[i].length + 1) (I[i].map (Value.int .i64) ++ [.int .i64 x])) (hup : Upd (fun k => u.ownBlock = some k) w w1) (hv : ∀ k, u'.ownBlock = some k → u.ownBlock = some k ∨ w.heap.size ≤ k) :
    InC (w1.setCell ⟨g, i, none⟩ u') base (.slice (some ⟨g, 0, none⟩) n c) (vs.set i u') (I.set i (I[i] ++ [x])) ∧ Upd (fun k => k = g ∨ u.ownBlock = some k) w (w1.setCell ⟨g, i, none⟩ u') := by
  have hum : u ∈ vs := List.mem_of_getElem? hu
  have hvl := h.len
  have hinner : ∀ y ∈ vs, ∀ k, y.ownBlock = some k → k ≠ g := fun y hy k hk e => by
    obtain ⟨l, hl⟩ := h.at hy
    obtain ⟨cs, hb1⟩ := own_blk hl hk
    obtain ⟨cs', hb2⟩ := own_blk h.row (k := g) rfl
    exact Blk.ne_ hb1 hb2 (by decide) e
  have hug : ¬ (u.ownBlock = some g) := fun e => hinner u hum g e rfl
  have hrow1 : w1.ownsRow 0 38 1 (.slice (some ⟨g, 0, none⟩) n c) I.length vs := ownsRow_keep h.row hup (fun k hk => by
    have : g = k := by simpa [Value.ownBlock] using hk
    subst this; exact hug)
  have hs := setCell_upd w1 g i u'
  have hu'g : ∀ k, u'.ownBlock = some k → k ≠ g := fun k hk e => by
    obtain ⟨cs, hb1⟩ := own_blk hrow hk
    obtain ⟨cs', hb2⟩ := own_blk hrow1 (k := g) rfl
    exact Blk.ne_ hb1 hb2 (by decide) e
  refine ⟨⟨?_, fun j hj => ?_, ?_, h.lo.1, ?_⟩, (hup.mono (fun k _ hk => .inr hk)).trans' hs (fun k _ hk => .inl hk)⟩
  · obtain ⟨hl, hr⟩ := hrow1
    refine ⟨by simp; omega, ?_⟩
    rcases hr with ⟨e, _⟩ | ⟨g', cap, cur, e, hb', hg, h1, h2, h3, h4⟩
    · cases e
    · injection e with e1 e2 e3
      injection e1 with e1
      injection e1 with e1
      subst e1 e3
      refine .inr ⟨g, c, cur.setIfInBounds i u', by rw [List.length_set, e2], Nat.zero_le _, ?_, by simpa using h1, h2, by simpa using h3, ?_⟩
      · have hb2 : Blk w1 g 38 cur := hg
        exact hb2.set_ i u'
      · simp only [List.length_set, Array.toList_setIfInBounds, Nat.mul_one] at h4 ⊢
        rw [List.take_set, h4]
  · rw [List.length_set] at hj
    by_cases hij : i = j
    · subst hij
      refine ⟨u', by rw [List.getElem?_set]; simp; omega, ?_⟩
      have e : (I.set i (I[i] ++ [x]))[i]'(by simpa using hj) = I[i] ++ [x] := by simp
      rw [e]
      have := ownsRow_keep hrow hs hu'g
      simpa using this
    · obtain ⟨y, h1, h2⟩ := h.each j hj
      refine ⟨y, by rw [List.getElem?_set, if_neg hij]; exact h1, ?_⟩
      have e : (I.set i (I[i] ++ [x]))[j]'(by simpa using hj) = I[j] := by simp [List.getElem_set, hij]
      rw [e]
      refine ownsRow_keep (ownsRow_keep h2 hup (fun k hk hk' => ?_)) hs (fun k hk => hinner y (List.mem_of_getElem? h1) k hk)
      exact h.apart i j u y k hij hu h1 hk' hk
  · intro a b y y' k hab h1 h2 hk hk'
    have hnew : ∀ {a : Nat} {y : Value}, (vs.set i u')[a]? = some y → (a = i ∧ y = u') ∨ (a ≠ i ∧ vs[a]? = some y) := by
      intro a y h
      rw [List.getElem?_set] at h
      split at h
      · rename_i e; subst e
        split at h
        · exact .inl ⟨rfl, (Option.some.inj h).symm⟩
        · cases h
      · rename_i e; exact .inr ⟨Ne.symm e, h⟩
    have hcross : ∀ {b : Nat} {y : Value}, b ≠ i → vs[b]? = some y → y.ownBlock = some k → u'.ownBlock = some k → False := by
      intro b y hb' hy hyk huk
      rcases hv k huk with e | e
      · exact h.apart i b u y k (Ne.symm hb') hu hy e hyk
      · obtain ⟨l, hl⟩ := h.at (List.mem_of_getElem? hy)
        have := (hl.lt k hyk).2
        omega
    rcases hnew h1 with ⟨ea, ey⟩ | ⟨ha, h1'⟩
    · rcases hnew h2 with ⟨eb, ey'⟩ | ⟨hb', h2'⟩
      · exact hab (ea.trans eb.symm)
      · exact hcross hb' h2' hk' (ey ▸ hk)
    · rcases hnew h2 with ⟨eb, ey'⟩ | ⟨hb', h2'⟩
      · exact hcross ha h1' hk (ey' ▸ hk')
      · exact h.apart a b y y' k hab h1' h2' hk hk'
  · intro y hy k hk
    rcases List.mem_or_eq_of_mem_set hy with hy | rfl
    · exact h.lo.2 y hy k hk
    · rcases hv k hk with e | e
      · exact h.lo.2 u hum k e
      · omega
end Go.Proofs.Ytjmidomcgaijjaa
