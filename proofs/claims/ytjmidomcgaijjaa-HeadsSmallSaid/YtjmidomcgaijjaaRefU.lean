/- The document's stack, by one law a method; both stacks side by side; the bounds of what they hold. -/
import Derived.Test.YtjmidomcgaijjaaRefR
import Derived.Test.YtjmidomcgaijjaaRefL
namespace Go.Proofs.Ytjmidomcgaijjaa
set_option linter.unusedVariables false
set_option linter.unusedSimpArgs false
open Go.RowKit

/-- what is held is small, its numbers are numbers; pairs stand once; each was touched by itself -/
structure Bd (n : Nat) (l : List Fr) : Prop where
  len : l.length ≤ n
  fr : ∀ f ∈ l, (i64 f.rule ∧ i64 f.place) ∧ (∀ x ∈ f.touched, i64 x) ∧ f.touched.length ≤ n ∧ (∀ x ∈ f.involved, i64 x) ∧ f.involved.length ≤ n * n ∧ f.rule ∈ f.touched
  apart : l.Pairwise fun a b => ¬ (a.rule = b.rule ∧ a.place = b.place)
theorem Bd.nil (n : Nat) : Bd n [] := ⟨by simp, by simp, List.Pairwise.nil⟩
theorem Bd.mono {n m : Nat} {l : List Fr} (h : Bd n l) (hm : n ≤ m) : Bd m l :=
  ⟨Nat.le_trans h.len hm, fun f hf => by
    obtain ⟨a, b, c, d, e, g⟩ := h.fr f hf
    exact ⟨a, b, Nat.le_trans c hm, d, Nat.le_trans e (Nat.mul_le_mul hm hm), g⟩, h.apart⟩
theorem pair_touch (l : List Fr) (pl : Int) (ts : List Int) (h : l.Pairwise fun a b => ¬ (a.rule = b.rule ∧ a.place = b.place)) : (l.map (touchF pl ts)).Pairwise fun a b => ¬ (a.rule = b.rule ∧ a.place = b.place) := by
  rw [List.pairwise_map]
  have e : ∀ f : Fr, (touchF pl ts f).rule = f.rule ∧ (touchF pl ts f).place = f.place := fun f => by unfold touchF; split <;> exact ⟨rfl, rfl⟩
  refine h.imp (fun {a b} hab => ?_)
  rw [(e a).1, (e b).1, (e a).2, (e b).2]
  exact hab
theorem mem_touchF (pl : Int) (ts : List Int) (f : Fr) (x : Int) (h : x ∈ (touchF pl ts f).touched) : x ∈ ts ∨ x ∈ f.touched := by
  unfold touchF at h
  split at h
  · exact mem_insAll.1 h
  · exact .inr h
theorem touchF_keep (pl : Int) (ts : List Int) (f : Fr) (x : Int) (h : x ∈ f.touched) : x ∈ (touchF pl ts f).touched := by
  unfold touchF
  split
  · exact mem_insAll.2 (.inr h)
  · exact h
theorem Bd.touch {n : Nat} {l : List Fr} (h : Bd n l) (pl : Int) (ts : List Int) (ht : ∀ x ∈ ts, i64 x) : Bd (n + ts.length) (l.map (touchF pl ts)) := by
  refine ⟨by simp; have := h.len; omega, fun f hf => ?_, pair_touch l pl ts h.apart⟩
  obtain ⟨f0, hf0, rfl⟩ := List.mem_map.1 hf
  obtain ⟨a, b, c, d, e, g⟩ := h.fr f0 hf0
  have e1 : (touchF pl ts f0).rule = f0.rule := by unfold touchF; split <;> rfl
  have e1p : (touchF pl ts f0).place = f0.place := by unfold touchF; split <;> rfl
  have e2 : (touchF pl ts f0).involved = f0.involved := by unfold touchF; split <;> rfl
  refine ⟨by rw [e1, e1p]; exact a, fun x hx => ?_, ?_, by rw [e2]; exact d, ?_, by rw [e1]; exact touchF_keep _ _ _ _ g⟩
  · rcases mem_touchF _ _ _ _ hx with hx | hx
    · exact ht x hx
    · exact b x hx
  · have := touchF_len pl ts f0; omega
  · rw [e2]; exact Nat.le_trans e (Nat.mul_le_mul (by omega) (by omega))
theorem Bd.enter {n : Nat} {l : List Fr} (h : Bd n l) {r : Int} {pl : Int} (hr : i64 r) (hpl : i64 pl) : Bd (n + 1) (enterA l r pl).2 := by
  unfold enterA
  cases hst : standsAt l r pl with
  | true => exact h.mono (by omega)
  | false =>
    cases lowOf l pl with
    | true => exact h.mono (by omega)
    | false =>
      show Bd (n + 1) ((l ++ [newF r pl]).map (touchF pl [r]))
      have hno : ∀ f ∈ l, ¬ (f.rule = r ∧ f.place = pl) := by
        unfold standsAt at hst
        rw [List.any_eq_false] at hst
        intro f hf he
        exact hst f hf (by simp [isPair, he.1, he.2])
      refine ⟨by simp; exact h.len, fun f hf => ?_, pair_touch _ pl [r] ?_⟩
      · obtain ⟨f0, hf0, rfl⟩ := List.mem_map.1 hf
        have e1 : (touchF pl [r] f0).rule = f0.rule := by unfold touchF; split <;> rfl
        have e1p : (touchF pl [r] f0).place = f0.place := by unfold touchF; split <;> rfl
        have e2 : (touchF pl [r] f0).involved = f0.involved := by unfold touchF; split <;> rfl
        have hl := touchF_len pl [r] f0
        have hone : ([r] : List Int).length = 1 := rfl
        rcases List.mem_append.1 hf0 with hf0 | hf0
        · obtain ⟨a, b, c, d, e, g⟩ := h.fr f0 hf0
          refine ⟨by rw [e1, e1p]; exact a, fun x hx => ?_, by omega, by rw [e2]; exact d, by rw [e2]; exact Nat.le_trans e (Nat.mul_le_mul (by omega) (by omega)), by rw [e1]; exact touchF_keep _ _ _ _ g⟩
          rcases mem_touchF _ _ _ _ hx with hx | hx
          · have : x = r := by simpa using hx
            subst this; exact hr
          · exact b x hx
        · obtain rfl : f0 = newF r pl := by simpa using hf0
          refine ⟨by rw [e1, e1p]; exact ⟨hr, hpl⟩, fun x hx => ?_, ?_, by rw [e2]; simp [newF], by rw [e2]; simp [newF], ?_⟩
          · rcases mem_touchF _ _ _ _ hx with hx | hx
            · have : x = r := by simpa using hx
              subst this; exact hr
            · simp [newF] at hx
          · have h0 : (newF r pl).touched.length = 0 := rfl
            omega
          · simp [touchF, newF, insAll, ins]
      · rw [List.pairwise_append]
        refine ⟨h.apart, List.pairwise_singleton _ _, fun a ha b hb => ?_⟩
        obtain rfl : b = newF r pl := by simpa using hb
        exact hno a ha
theorem Bd.use {n : Nat} {l : List Fr} (h : Bd n l) (pl : Int) (ts : List Int) (ht : ∀ x ∈ ts, i64 x) : Bd (n + ts.length) (useA l pl ts).2 := by
  unfold useA
  cases lowOf l pl with
  | true => exact h.mono (by omega)
  | false => exact h.touch pl ts ht
theorem Bd.read {n : Nat} {l : List Fr} (h : Bd n l) {r : Int} (pl : Int) (hr : i64 r) : Bd (n + 1) (readB l r pl).2 := by
  unfold readB
  cases l.findIdx? (isPair r pl) with
  | none => exact h.mono (by omega)
  | some k =>
    show Bd (n + 1) (readA l k r pl)
    unfold readA
    have e0 : ∀ m j f, (readAt k (rulesOf l) m j f).rule = f.rule ∧ (readAt k (rulesOf l) m j f).place = f.place := fun m j f => by
      unfold readAt
      split
      · exact ⟨rfl, rfl⟩
      · split <;> exact ⟨rfl, rfl⟩
    have hlen := h.len
    have hrl : (rulesOf l).length = l.length := by simp [rulesOf]
    have hap : (l.mapIdx (readAt k (rulesOf l) l.length)).Pairwise fun a b => ¬ (a.rule = b.rule ∧ a.place = b.place) := by
      rw [List.pairwise_iff_getElem]
      intro i j hi hj hij
      have h1 := (List.pairwise_iff_getElem.1 h.apart) i j (by simpa using hi) (by simpa using hj) hij
      rw [List.getElem_mapIdx, List.getElem_mapIdx, (e0 _ _ _).1, (e0 _ _ _).1, (e0 _ _ _).2, (e0 _ _ _).2]
      exact h1
    refine ⟨by simp; omega, fun f hf => ?_, pair_touch _ pl [r] hap⟩
    obtain ⟨f1, hf1, rfl⟩ := List.mem_map.1 hf
    obtain ⟨j, hj, rfl⟩ := List.mem_mapIdx.1 hf1
    obtain ⟨a, b, c, d, e, g⟩ := h.fr _ (List.getElem_mem hj)
    generalize hx : readAt k (rulesOf l) l.length j l[j] = x
    have e1 : (touchF pl [r] x).rule = x.rule := by unfold touchF; split <;> rfl
    have e1p : (touchF pl [r] x).place = x.place := by unfold touchF; split <;> rfl
    have e2 : (touchF pl [r] x).involved = x.involved := by unfold touchF; split <;> rfl
    have hl := touchF_len pl [r] x
    have hone : ([r] : List Int).length = 1 := rfl
    have h1 := readAt_len k l.length j (rulesOf l) l[j]
    rw [hx] at h1
    have h2 : x.rule = l[j].rule := by rw [← hx]; exact (e0 _ _ _).1
    have h2p : x.place = l[j].place := by rw [← hx]; exact (e0 _ _ _).2
    refine ⟨by rw [e1, e1p, h2, h2p]; exact a, fun y hy => ?_, by rw [h1.2] at hl; omega, fun y hy => ?_, ?_, by rw [e1, h2]; exact touchF_keep _ _ _ _ (by rw [h1.2]; exact g)⟩
    · rcases mem_touchF _ _ _ _ hy with hy | hy
      · have : y = r := by simpa using hy
        subst this; exact hr
      · rw [h1.2] at hy; exact b y hy
    · rw [e2, ← hx] at hy
      unfold readAt at hy
      split at hy
      · rcases mem_insAll.1 hy with hy | hy
        · have hy' := List.mem_of_mem_drop (List.mem_of_mem_take hy)
          obtain ⟨f2, hf2, rfl⟩ := List.mem_map.1 hy'
          exact (h.fr f2 hf2).1.1
        · exact d y hy
      · split at hy <;> exact d y hy
    · rw [e2]
      have h3 := h1.1
      rw [hrl] at h3
      have h4 : (n + 1) * (n + 1) = n * n + n + n + 1 := by rw [Nat.add_mul, Nat.mul_add]; omega
      omega
theorem Bd.pop {n : Nat} {l : List Fr} {f : Fr} (h : Bd n (l ++ [f])) : Bd n l :=
  ⟨by have := h.len; simp at this; omega, fun g hg => h.fr g (List.mem_append_left _ hg), (List.pairwise_append.1 h.apart).1⟩
theorem Bd.fine {n : Nat} {l : List Fr} (h : Bd n l) (hn : n ≤ 900) : Fine l := fun f hf => by
  obtain ⟨a, b, c, d, e, g⟩ := h.fr f hf
  have : n * n ≤ 900 * 900 := Nat.mul_le_mul hn hn
  exact ⟨⟨b, by omega⟩, d, by omega⟩

def RS (w : World) (q : Nat) (R : Nat → Prop) (l : List Fr) : Prop := ∃ v cs, RefC w q v cs ∧ frR cs = l ∧ R = RFoot q v cs
theorem RS.keep {w w' : World} {q : Nat} {R U : Nat → Prop} {l : List Fr} (h : RS w q R l) (hu : Upd U w w') (hn : ∀ k, R k → ¬ U k) : RS w' q R l := by
  obtain ⟨v, cs, h1, h2, rfl⟩ := h
  exact ⟨v, cs, h1.keep hu hn, h2, rfl⟩
theorem RS.ext {w w' : World} {q : Nat} {R : Nat → Prop} {l : List Fr} (h : RS w q R l) (hb : Below w.heap.size w w') : RS w' q R l := h.keep (U := fun _ => False) (Upd.of_ext hb) (fun _ _ h => h)
theorem RS.slt {w : World} {q : Nat} {R : Nat → Prop} {l : List Fr} (h : RS w q R l) : ∀ k, R k → k < w.heap.size := by
  obtain ⟨v, cs, h1, h2, rfl⟩ := h
  exact fun k hk => h1.foot_lt hk

section
variable {w : World} {q : Nat} {R : Nat → Prop} {l : List Fr} {n : Nat}
theorem enterR_uni (r pl : Int) (h : RS w q R l) (hb : Bd n l) (hn : n ≤ 800) :
    Calls Try.prog 22 #[.pointer (some ⟨q, 0, none⟩), .int .i64 r, .int .i64 pl] w fun e w' => ∃ T, e = .returned (.int .i64 (enterA l r pl).1) ∧ RS w' q T (enterA l r pl).2 ∧ Step R T w w' := by
  obtain ⟨v, cs, hc, rfl, rfl⟩ := h
  have hl := hb.len
  rw [frR_length] at hl
  refine (enterR_any q v cs r pl w hc (by omega) (fun c hcs => ?_)).mono ?_
  · have := (hb.fr c.f (List.mem_map.2 ⟨c, hcs, rfl⟩)).2.2.1; omega
  · rintro e w' ⟨rfl, v', cs', h1, h2, h3⟩
    exact ⟨_, rfl, ⟨v', cs', h1, h2, rfl⟩, h3⟩
theorem readR_uni (r pl : Int) (h : RS w q R l) (hb : Bd n l) (hn : n ≤ 800) :
    Calls Try.prog 24 #[.pointer (some ⟨q, 0, none⟩), .int .i64 r, .int .i64 pl] w fun e w' => ∃ T, e = .returned (.int .i64 (readB l r pl).1) ∧ RS w' q T (readB l r pl).2 ∧ Step R T w w' := by
  obtain ⟨v, cs, hc, rfl, rfl⟩ := h
  have hl := hb.len
  rw [frR_length] at hl
  refine (readR_any q v cs r pl w hc (by omega) (fun c hcs => ?_)).mono ?_
  · obtain ⟨_, _, h1, _, h2, _⟩ := hb.fr c.f (List.mem_map.2 ⟨c, hcs, rfl⟩)
    have : n * n ≤ 800 * 800 := Nat.mul_le_mul hn hn
    exact ⟨by omega, by omega⟩
  · rintro e w' ⟨rfl, cs', h1, h2, h3⟩
    exact ⟨_, rfl, ⟨v, cs', h1, h2, rfl⟩, h3⟩
theorem useR_uni (lv : Value) (ts : List Int) (pl : Int) (h : RS w q R l) (hb : Bd n l) (hn : n ≤ 800) (hts : ts.length ≤ 100000) (hl : ∀ T W, Step R T w W → Ints W lv ts) :
    Calls Try.prog 26 #[.pointer (some ⟨q, 0, none⟩), .int .i64 pl, lv] w fun e w' => ∃ T, e = .returned (.int .i64 (useA l pl ts).1) ∧ RS w' q T (useA l pl ts).2 ∧ Step R T w w' := by
  obtain ⟨v, cs, hc, rfl, rfl⟩ := h
  refine (useR_any q v cs lv ts pl w hc (fun c hcs => ?_) hts (hl _ _ (Step.refl _ _)) hl).mono ?_
  · have := (hb.fr c.f (List.mem_map.2 ⟨c, hcs, rfl⟩)).2.2.1; omega
  · rintro e w' ⟨rfl, cs', h1, h2, h3⟩
    exact ⟨_, rfl, ⟨v, cs', h1, h2, rfl⟩, h3⟩
theorem leaveR_uni0 (h : RS w q R []) :
    Calls Try.prog 28 #[.pointer (some ⟨q, 0, none⟩)] w fun e w' => e = .returned (.tuple #[.agg #[.int .i64 0, .int .i64 0, .slice none 0 0, .slice none 0 0, .bool false], .int .i64 5]) ∧ Below w.heap.size w w' := by
  obtain ⟨v, cs, hc, hl, rfl⟩ := h
  obtain rfl : cs = [] := by unfold frR at hl; simpa using hl
  exact leaveR_none q v w hc
theorem leaveR_uni (f : Fr) (h : RS w q R (l ++ [f])) :
    Calls Try.prog 28 #[.pointer (some ⟨q, 0, none⟩)] w fun e w' => ∃ T u iv, e = .returned (.tuple #[.agg #[.int .i64 f.rule, .int .i64 f.place, u, iv, .bool f.tainted], .int .i64 0]) ∧
      RowI w' u f.touched ∧ (∃ A n c, iv = .slice A n c) ∧ (∀ k, u.ownBlock = some k → R k) ∧ RS w' q T l ∧ Step R T w w' := by
  obtain ⟨v, cs, hc, hl, rfl⟩ := h
  obtain ⟨cs', c, rfl⟩ : ∃ cs' c, cs = cs' ++ [c] := by
    rcases List.eq_nil_or_concat cs with rfl | ⟨a, b, e⟩
    · simp [frR] at hl
    · exact ⟨a, b, by rw [e, List.concat_eq_append]⟩
  rw [frR_last] at hl
  obtain ⟨h1, h2⟩ := List.append_inj' hl rfl
  obtain rfl : c.f = f := by simpa using h2
  refine (leaveR_some q v cs' c w hc).mono ?_
  rintro e w' ⟨rfl, h3, v', h4, h5⟩
  obtain ⟨Ai, ci, hiv⟩ := ownsRow_form (hc.rows c (by simp)).2.1
  exact ⟨_, c.tv, c.iv, rfl, h3, ⟨_, _, _, hiv⟩, fun k hk => .inr (.inr ⟨c, by simp, .inl hk⟩), ⟨v', cs', h4, h1, rfl⟩, h5⟩
theorem taintedR_uni (h : RS w q R l) :
    Calls Try.prog 55 #[.pointer (some ⟨q, 0, none⟩)] w fun e w' => e = .returned (.bool (taintedOf l)) ∧ ∃ n, w' = w.drewN n := by
  obtain ⟨v, cs, hc, rfl, rfl⟩ := h
  exact taintedR_any q v cs w hc
theorem freeR_uni (lv : Value) (ts : List Int) (pl : Int) (h : RS w q R l) (hl : Ints w lv ts) :
    Calls Try.prog 56 #[.pointer (some ⟨q, 0, none⟩), .int .i64 pl, lv] w fun e w' => e = .returned (.bool (!(ts.any fun r => standsAt l r pl))) ∧ w = w' := by
  obtain ⟨v, cs, hc, rfl, rfl⟩ := h
  exact freeR_any q v cs lv ts pl w hc hl
theorem involvedR_uni (r pl : Int) (h : RS w q R l) :
    Calls Try.prog 57 #[.pointer (some ⟨q, 0, none⟩), .int .i64 r, .int .i64 pl] w fun e w' => ∃ u, e = .returned u ∧ RowI w u (involvedOf l r pl) ∧ (∀ k, u.ownBlock = some k → R k) ∧ w = w' := by
  obtain ⟨v, cs, hc, rfl, rfl⟩ := h
  exact involvedR_any q v cs r pl w hc
/-- the row of activations, as it is read -/
theorem RS.form (h : RS w q R l) : ∃ A c, w.cell? ⟨q, 0, none⟩ = some (.slice A l.length c) ∧ q < w.heap.size ∧ l.length ≤ c ∧ c ≤ maxLen ∧
    (0 < l.length → ∃ g, A = some ⟨g, 0, none⟩ ∧ g < w.heap.size ∧ R g ∧ ∀ k (hk : k < l.length), ∃ tv iv, w.cell? ⟨g, k * 5, none⟩ = some (.int .i64 l[k].rule) ∧ w.cell? ⟨g, k * 5 + 1, none⟩ = some (.int .i64 l[k].place) ∧
      w.cell? ⟨g, k * 5 + 2, none⟩ = some tv ∧ w.cell? ⟨g, k * 5 + 3, none⟩ = some iv ∧ w.cell? ⟨g, k * 5 + 4, none⟩ = some (.bool l[k].tainted) ∧ RowI w tv l[k].touched ∧ RowI w iv l[k].involved) := by
  obtain ⟨v, cs, hc, rfl, rfl⟩ := h
  have h0 := hc.c0
  have hl := hc.blk.lt
  have hr := hc.rows
  have hf : ∀ k, v.ownBlock = some k → RFoot q v cs k := fun k hk => .inr (.inl hk)
  obtain ⟨A, c, rfl, h1, h2, _, h3⟩ := hc.form
  have he := frR_length cs
  refine ⟨A, c, by rw [he]; exact h0, hl, by omega, h2, fun hn => ?_⟩
  obtain ⟨g, rfl, hg, _, hcell⟩ := h3 (by omega)
  refine ⟨g, rfl, hg, hf g rfl, fun k hk' => ?_⟩
  have hk : k < cs.length := by omega
  obtain ⟨g0, g1, g2, g3, g4⟩ := hcell k hk
  rw [frR_at cs k hk]
  have hrk := hr _ (List.getElem_mem hk)
  exact ⟨_, _, g0, g1, g2, g3, g4, hrk.1, hrk.2⟩
end

/-- both stacks: p leads to the program's, q to the document's; what is theirs is U -/
def Tw (w : World) (p q : Nat) (U : Nat → Prop) (l : List Fr) : Prop := ∃ S R, HS w p S l ∧ RS w q R l ∧ (∀ k, S k → ¬ R k) ∧ U = fun k => S k ∨ R k
theorem Tw.slt {w : World} {p q : Nat} {U : Nat → Prop} {l : List Fr} (h : Tw w p q U l) : ∀ k, U k → k < w.heap.size := by
  obtain ⟨S, R, h1, h2, _, rfl⟩ := h
  rintro k (hk | hk)
  · exact h1.slt k hk
  · exact h2.slt k hk
theorem Tw.ext {w w' : World} {p q : Nat} {U : Nat → Prop} {l : List Fr} (h : Tw w p q U l) (hb : Below w.heap.size w w') : Tw w' p q U l := by
  obtain ⟨S, R, h1, h2, h3, rfl⟩ := h
  exact ⟨S, R, h1.ext hb, h2.ext hb, h3, rfl⟩
theorem Tw.keep {w w' : World} {p q : Nat} {U X : Nat → Prop} {l : List Fr} (h : Tw w p q U l) (hu : Upd X w w') (hn : ∀ k, U k → ¬ X k) : Tw w' p q U l := by
  obtain ⟨S, R, h1, h2, h3, rfl⟩ := h
  exact ⟨S, R, h1.keep hu (fun k hk => hn k (.inl hk)), h2.keep hu (fun k hk => hn k (.inr hk)), h3, rfl⟩
/-- one stack has gone on, then the other -/
theorem Tw.both {w w1 w2 : World} {p q : Nat} {S T R R1 : Nat → Prop} {l l1 : List Fr} (hs : HS w p S l) (hr : RS w q R l) (hd : ∀ k, S k → ¬ R k) (h1 : HS w1 p T l1) (st1 : Step S T w w1)
    (h2 : RS w2 q R1 l1) (st2 : Step R R1 w1 w2) : ∃ U, Tw w2 p q U l1 ∧ Step (fun k => S k ∨ R k) U w w2 := by
  have hTR : ∀ k, T k → ¬ R k := fun k hk hrk => by
    rcases st1.sub k hk with h | h
    · exact hd k h hrk
    · have := hr.slt k hrk; omega
  have hTR1 : ∀ k, T k → ¬ R1 k := fun k hk hrk => by
    rcases st2.sub k hrk with h | h
    · exact hTR k hk h
    · have := h1.slt k hk; omega
  refine ⟨fun k => T k ∨ R1 k, ⟨T, R1, h1.keep st2.upd hTR, h2, hTR1, rfl⟩, (st1.upd.mono (fun k _ hk => .inl hk)).trans' st2.upd (fun k _ hk => .inr hk), fun k hk => ?_⟩
  rcases hk with hk | hk
  · exact (st1.sub k hk).imp .inl id
  · rcases st2.sub k hk with h | h
    · exact .inl (.inr h)
    · exact .inr (Nat.le_trans st1.upd.size h)
end Go.Proofs.Ytjmidomcgaijjaa
