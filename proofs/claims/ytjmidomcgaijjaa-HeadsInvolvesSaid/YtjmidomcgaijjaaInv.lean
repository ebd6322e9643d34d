/- What was done and what stands: the plain law. -/
import Derived.Test.YtjmidomcgaijjaaStep
namespace Go.Proofs.Ytjmidomcgaijjaa
set_option linter.unusedVariables false
set_option linter.unusedSimpArgs false

theorem insAll_append (a b xs : List Int) : insAll (a ++ b) xs = insAll b (insAll a xs) := by unfold insAll; exact List.foldl_append
theorem mem_insAll {y : Int} {l xs : List Int} : y ∈ insAll l xs ↔ y ∈ l ∨ y ∈ xs := by
  induction l generalizing xs with
  | nil => simp [insAll]
  | cons a l ih =>
    have e : insAll (a :: l) xs = insAll l (ins a xs) := rfl
    rw [e, ih, mem_ins, List.mem_cons]
    constructor
    · rintro (h | h | h) <;> simp [h]
    · rintro ((h | h) | h) <;> simp [h]
theorem rising_insAll {l xs : List Int} (h : Rising xs) : Rising (insAll l xs) := by
  induction l generalizing xs with
  | nil => exact h
  | cons a l ih => exact ih (rising_ins h)
theorem length_ins (x : Int) (l : List Int) : (ins x l).length ≤ l.length + 1 := by
  induction l with
  | nil => simp [ins]
  | cons a l ih =>
    unfold ins
    split
    · simp
    · split
      · simp
      · simp; omega
theorem length_insAll (l xs : List Int) : (insAll l xs).length ≤ l.length + xs.length := by
  induction l generalizing xs with
  | nil => simp [insAll]
  | cons a l ih =>
    have e : insAll (a :: l) xs = insAll l (ins a xs) := rfl
    have h1 := ih (ins a xs)
    have h2 := length_ins a xs
    rw [e]; simp; omega

def tset (ts : List Tc) (s : St) : List Int := insAll ((ts.filter fun t => decide (s.since ≤ t.step) && t.place == s.place).map Tc.rule) []
def frOf (H : Hist) (I : List (List Int)) (i : Nat) (s : St) : Fr := ⟨s.rule, s.place, tset H.touches s, insAll (I.getD i []) [], hangsOf H i s.since⟩
def frsOf (H : Hist) (I : List (List Int)) : List Fr := H.l.mapIdx (frOf H I)
theorem frsOf_length (H : Hist) (I : List (List Int)) : (frsOf H I).length = H.l.length := by simp [frsOf]
theorem frsOf_at (H : Hist) (I : List (List Int)) (i : Nat) (h : i < H.l.length) : (frsOf H I)[i]'(by rw [frsOf_length]; exact h) = frOf H I i H.l[i] := by simp [frsOf]

theorem tset_snoc (ts : List Tc) (s : St) (k r P : Int) : tset (ts ++ [⟨k, r, P⟩]) s = if s.since ≤ k ∧ s.place = P then ins r (tset ts s) else tset ts s := by
  unfold tset
  rw [List.filter_append, List.map_append, insAll_append]
  by_cases h : s.since ≤ k ∧ s.place = P
  · obtain ⟨h1, rfl⟩ := h
    simp [h1, insAll]
  · rw [if_neg h]
    have : (decide (s.since ≤ k) && P == s.place) = false := by
      rw [Bool.eq_false_iff]
      intro e
      simp at e
      exact h ⟨e.1, e.2.symm⟩
    simp [this, insAll]
theorem mem_tset {ts : List Tc} {s : St} {x : Int} : x ∈ tset ts s ↔ ∃ t ∈ ts, s.since ≤ t.step ∧ t.place = s.place ∧ t.rule = x := by
  unfold tset
  rw [mem_insAll]
  simp only [List.mem_map, List.mem_filter, List.not_mem_nil, or_false, Bool.and_eq_true, decide_eq_true_eq, beq_iff_eq]
  constructor
  · rintro ⟨t, ⟨h1, h2, h3⟩, h4⟩; exact ⟨t, h1, h2, h3, h4⟩
  · rintro ⟨t, h1, h2, h3, h4⟩; exact ⟨t, ⟨h1, h2, h3⟩, h4⟩
theorem rising_tset (ts : List Tc) (s : St) : Rising (tset ts s) := rising_insAll List.Pairwise.nil
theorem length_tset (ts : List Tc) (s : St) : (tset ts s).length ≤ ts.length := by
  unfold tset
  refine Nat.le_trans (length_insAll _ _) ?_
  rw [List.length_map]
  exact List.length_filter_le _ _
theorem touchedOf_iff {H : Hist} {since pl r : Int} : touchedOf H since pl r = true ↔ ∃ t ∈ H.touches, since ≤ t.step ∧ t.place = pl ∧ t.rule = r := by
  unfold touchedOf
  rw [List.any_eq_true]
  simp only [Bool.and_eq_true, decide_eq_true_eq, beq_iff_eq, ge_iff_le]
  constructor
  · rintro ⟨t, h1, ⟨h2, h3⟩, h4⟩; exact ⟨t, h1, h2, h4, h3⟩
  · rintro ⟨t, h1, h2, h3, h4⟩; exact ⟨t, h1, ⟨h2, h4⟩, h3⟩

/-- the times and the bounds -/
structure Tm (H : Hist) (I : List (List Int)) (n : Nat) : Prop where
  since : ∀ s ∈ H.l, s.since < n
  reads : ∀ r ∈ H.reads, r.step < n
  touches : ∀ t ∈ H.touches, t.step < n ∧ i64 t.rule
  stand : ∀ s ∈ H.l, i64 s.rule ∧ 0 ≤ s.place ∧ s.place ≤ n
  ll : H.l.length ≤ n
  lr : H.reads.length ≤ n
  lt : H.touches.length ≤ n
  li : I.length = H.l.length
  inv : ∀ x ∈ I, x.length ≤ n * n ∧ ∀ y ∈ x, i64 y
  apart : H.l.Pairwise fun a b => ¬ (a.rule = b.rule ∧ a.place = b.place)

theorem Tm.now {H : Hist} {I : List (List Int)} {n : Nat} (h : Tm H I n) : 0 ≤ nowOf H.l ∧ nowOf H.l ≤ n := by
  unfold nowOf
  cases e : H.l.getLast? with
  | none => simp
  | some s => exact (h.stand s (List.mem_of_getLast? e)).2

section
variable {H : Hist} {I : List (List Int)} {n : Nat}
theorem any_frs (r P : Int) : standsAt (frsOf H I) r P = H.l.any (isSt r P) := by
  unfold standsAt frsOf
  rw [Bool.eq_iff_iff, List.any_eq_true, List.any_eq_true]
  constructor
  · rintro ⟨f, hf, e⟩
    obtain ⟨i, hi, rfl⟩ := List.mem_mapIdx.1 hf
    exact ⟨_, List.getElem_mem hi, e⟩
  · rintro ⟨s, hs, e⟩
    obtain ⟨i, hi, rfl⟩ := List.getElem_of_mem hs
    exact ⟨_, List.mem_mapIdx.2 ⟨i, hi, rfl⟩, e⟩
theorem find_frs (r P : Int) : (frsOf H I).findIdx? (isPair r P) = H.l.findIdx? (isSt r P) := by
  unfold frsOf
  generalize hg : frOf H I = g
  have hg' : ∀ i s, isPair r P (g i s) = isSt r P s := by subst hg; intro i s; rfl
  clear hg
  induction H.l generalizing g with
  | nil => rfl
  | cons s l ih =>
    rw [List.mapIdx_cons, List.findIdx?_cons, List.findIdx?_cons, hg', ih _ (fun i s => hg' (i + 1) s)]
theorem low_frs (P : Int) (hP : nowOf H.l ≤ P) : lowOf (frsOf H I) P = false := by
  unfold lowOf frsOf
  unfold nowOf at hP
  rcases List.eq_nil_or_concat H.l with e | ⟨l, s, e⟩
  · rw [e]; rfl
  · rw [List.concat_eq_append] at e
    rw [e] at hP ⊢
    rw [List.mapIdx_append]
    simp at hP ⊢
    exact hP
theorem pos_any (r P : Int) : decide (0 ≤ posOf (isSt r P) H.l) = H.l.any (isSt r P) := posOf_ge _ _

/-- entering -/
theorem enter_frs {r P : Int} (h : Tm H I n) (hp : posOf (isSt r P) H.l < 0) (hP : nowOf H.l ≤ P) :
    enterA (frsOf H I) r P = (0, frsOf { H with l := H.l ++ [⟨r, P, n⟩], touches := H.touches ++ [⟨n, r, P⟩] } (I ++ [[]])) := by
  have h1 : standsAt (frsOf H I) r P = false := by rw [any_frs, ← pos_any]; simpa using hp
  unfold enterA
  rw [h1, low_frs P hP]
  simp only [Bool.false_eq_true, if_false, Prod.mk.injEq, true_and]
  apply List.ext_getElem
  · simp [frsOf_length]
  · intro i hi hi'
    rw [frsOf_length] at hi'
    rw [frsOf_at _ _ _ hi', List.getElem_map]
    simp only [List.length_append, List.length_cons, List.length_nil] at hi'
    by_cases hin : i < H.l.length
    · rw [List.getElem_append_left (by rw [frsOf_length]; exact hin), frsOf_at _ _ _ hin]
      have e : (H.l ++ [(⟨r, P, n⟩ : St)])[i]'(by simp; omega) = H.l[i] := List.getElem_append_left hin
      simp only [e]
      have hs := h.since _ (List.getElem_mem hin)
      unfold touchF frOf
      have hI : (I ++ [[]]).getD i [] = I.getD i [] := by
        have := h.li
        simp [List.getD, List.getElem?_append_left (show i < I.length by omega)]
      simp only [tset_snoc, hI]
      have hh : ∀ i s, hangsOf { H with l := H.l ++ [⟨r, P, n⟩], touches := H.touches ++ [⟨n, r, P⟩] } i s = hangsOf H i s := fun _ _ => rfl
      simp only [hh]
      by_cases hpl : H.l[i].place = P
      · simp [hpl, insAll, show H.l[i].since ≤ n by omega]
      · simp [hpl]
    · obtain rfl : i = H.l.length := by omega
      have e : (H.l ++ [(⟨r, P, n⟩ : St)])[H.l.length]'(by simp) = ⟨r, P, n⟩ := by simp
      have e2 : (frsOf H I ++ [newF r P])[H.l.length]'(by simp [frsOf_length]) = newF r P := by simp [frsOf_length]
      simp only [e, e2]
      have ht : tset H.touches ⟨r, P, n⟩ = [] := by
        rw [List.eq_nil_iff_forall_not_mem]
        intro x hx
        obtain ⟨t, ht, h1, _⟩ := mem_tset.1 hx
        have := (h.touches t ht).1
        have h1 : (n : Int) ≤ t.step := h1
        omega
      have hh : hangsOf { H with l := H.l ++ [⟨r, P, n⟩], touches := H.touches ++ [⟨n, r, P⟩] } H.l.length n = false := by
        unfold hangsOf
        rw [List.any_eq_false]
        intro x hx
        have := h.reads x hx
        simp; omega
      have hI : (I ++ [[]]).getD H.l.length [] = [] := by
        have := h.li
        simp [List.getD, ← this]
      unfold frOf touchF newF
      simp only [tset_snoc, ht, hh, hI]
      simp [insAll, ins]
theorem enter_frs_old {r P : Int} (hp : 0 ≤ posOf (isSt r P) H.l) : enterA (frsOf H I) r P = (8, frsOf H I) := by
  have h1 : standsAt (frsOf H I) r P = true := by rw [any_frs, ← pos_any]; simpa using hp
  unfold enterA
  rw [h1]; rfl

/-- using -/
theorem touch_frs {r P : Int} (h : Tm H I n) : (frsOf H I).map (touchF P [r]) = frsOf { H with touches := H.touches ++ [⟨n, r, P⟩] } I := by
  apply List.ext_getElem
  · simp [frsOf_length]
  · intro i hi hi'
    rw [frsOf_length] at hi'
    have hin : i < H.l.length := hi'
    rw [frsOf_at _ _ _ hi', List.getElem_map, frsOf_at _ _ _ hin]
    have hs := h.since _ (List.getElem_mem hin)
    unfold touchF frOf
    simp only [tset_snoc]
    have hh : ∀ i s, hangsOf { H with touches := H.touches ++ [⟨n, r, P⟩] } i s = hangsOf H i s := fun _ _ => rfl
    simp only [hh]
    by_cases hpl : H.l[i].place = P
    · simp [hpl, insAll, show H.l[i].since ≤ n by omega]
    · simp [hpl]
theorem use_frs {r P : Int} (h : Tm H I n) (hP : nowOf H.l ≤ P) : useA (frsOf H I) P [r] = (0, frsOf { H with touches := H.touches ++ [⟨n, r, P⟩] } I) := by
  unfold useA
  rw [low_frs P hP, touch_frs h]; rfl
theorem use_frs_nil {r P : Int} (hn : H.l.length = 0) (hP : nowOf H.l ≤ P) : useA (frsOf H I) P [r] = (0, frsOf H I) := by
  have e : frsOf H I = [] := by unfold frsOf; rw [List.eq_nil_of_length_eq_zero hn]; rfl
  unfold useA
  rw [low_frs P hP, e]; rfl

/-- reading -/
theorem read_frs_none {r P : Int} (hp : posOf (isSt r P) H.l < 0) : readB (frsOf H I) r P = (5, frsOf H I) := by
  unfold readB
  rw [find_frs]
  unfold posOf at hp
  cases e : H.l.findIdx? (isSt r P) with
  | none => rfl
  | some i => rw [e] at hp; have hp : (i : Int) < 0 := hp; omega
def readI (H : Hist) (I : List (List Int)) (k : Nat) : List (List Int) := I.set k (I.getD k [] ++ (H.l.map St.rule).drop (k + 1))
theorem read_frs {r P : Int} (h : Tm H I n) (k : Nat) (hp : posOf (isSt r P) H.l = (k : Int)) :
    readB (frsOf H I) r P = (0, frsOf { H with reads := H.reads ++ [⟨n, k⟩], touches := H.touches ++ [⟨n, r, P⟩] } (readI H I k)) := by
  unfold readB
  rw [find_frs]
  cases e : H.l.findIdx? (isSt r P) with
  | none => unfold posOf at hp; rw [e] at hp; have hp : (-1 : Int) = k := hp; omega
  | some j =>
    obtain rfl : j = k := by unfold posOf at hp; rw [e] at hp; exact Int.ofNat.inj hp
    have hj := (List.findIdx?_eq_some_iff_getElem.1 e).1
    simp only [Prod.mk.injEq, true_and]
    have hrules : rulesOf (frsOf H I) = H.l.map St.rule := by
      unfold rulesOf
      apply List.ext_getElem
      · simp [frsOf_length]
      · intro i h1 h2
        simp [frsOf, frOf]
    unfold readA
    rw [hrules, frsOf_length]
    have h1 : (frsOf H I).mapIdx (readAt j (H.l.map St.rule) H.l.length) = frsOf { H with reads := H.reads ++ [⟨n, j⟩] } (readI H I j) := by
      apply List.ext_getElem
      · simp [frsOf_length]
      · intro i hi hi'
        rw [frsOf_length] at hi'
        have hin : i < H.l.length := hi'
        rw [frsOf_at _ _ _ hi', List.getElem_mapIdx, frsOf_at _ _ _ hin]
        have hs := h.since _ (List.getElem_mem hin)
        have hli := h.li
        have hha : hangsOf { H with reads := H.reads ++ [⟨n, j⟩] } i H.l[i].since = (hangsOf H i H.l[i].since || decide (j < i)) := by
          unfold hangsOf
          simp only [List.any_append, List.any_cons, List.any_nil, Bool.or_false]
          congr 1
          simp [hs]
        unfold readAt frOf
        simp only [hha]
        by_cases hij : i = j
        · subst hij
          rw [if_pos rfl]
          have hI : (readI H I i).getD i [] = I.getD i [] ++ (H.l.map St.rule).drop (i + 1) := by
            unfold readI
            simp [List.getD, List.getElem?_set, show i < I.length by omega]
          simp only [hI, insAll_append]
          have hd : ((H.l.map St.rule).drop (i + 1)).take (H.l.length - (i + 1)) = (H.l.map St.rule).drop (i + 1) := List.take_of_length_le (by simp)
          simp only [hd]
          simp
        · rw [if_neg hij]
          have hI : (readI H I j).getD i [] = I.getD i [] := by
            unfold readI
            simp [List.getD, List.getElem?_set, Ne.symm hij]
          simp only [hI]
          by_cases hlt : j < i
          · simp [hlt, hin, taint]
          · simp [hlt]
    rw [h1]
    have h2 : Tm { H with reads := H.reads ++ [⟨n, j⟩] } (readI H I j) n ∨ True := .inr trivial
    apply List.ext_getElem
    · simp [frsOf_length]
    · intro i hi hi'
      rw [frsOf_length] at hi'
      have hin : i < H.l.length := hi'
      rw [frsOf_at _ _ _ hi', List.getElem_map, frsOf_at { H with reads := H.reads ++ [⟨n, j⟩] } _ _ hin]
      have hs := h.since _ (List.getElem_mem hin)
      unfold touchF frOf
      simp only [tset_snoc]
      have hh : ∀ i s, hangsOf { H with reads := H.reads ++ [⟨n, j⟩], touches := H.touches ++ [⟨n, r, P⟩] } i s = hangsOf { H with reads := H.reads ++ [⟨n, j⟩] } i s := fun _ _ => rfl
      simp only [hh]
      by_cases hpl : H.l[i].place = P
      · simp [hpl, insAll, show H.l[i].since ≤ n by omega]
      · simp [hpl]

/-- leaving -/
theorem leave_frs {l : List St} {s : St} (e : H.l = l ++ [s]) : frsOf H I = frsOf { H with l := l } (I.take l.length) ++ [frOf H I l.length s] := by
  apply List.ext_getElem
  · simp [frsOf_length, e]
  · intro i hi hi'
    have hin : i < H.l.length := by rw [frsOf_length] at hi; exact hi
    rw [frsOf_at _ _ _ hin]
    have hle : H.l.length = l.length + 1 := by rw [e]; simp
    by_cases h : i < l.length
    · rw [List.getElem_append_left (by rw [frsOf_length]; exact h), frsOf_at { H with l := l } _ _ h]
      have e1 : H.l[i] = l[i] := by simp [e, List.getElem_append_left h]
      rw [e1]
      unfold frOf
      have hI : (I.take l.length).getD i [] = I.getD i [] := by simp [List.getD, List.getElem?_take, h]
      rw [hI]; rfl
    · obtain rfl : i = l.length := by omega
      have e1 : H.l[l.length] = s := by simp [e]
      rw [e1]
      simp [frsOf_length]

theorem tainted_frs : taintedOf (frsOf H I) = (match H.l.getLast? with | some s => hangsOf H (H.l.length - 1) s.since | none => false) := by
  unfold taintedOf
  rcases List.eq_nil_or_concat H.l with e | ⟨l, s, e⟩
  · have : frsOf H I = [] := by unfold frsOf; rw [e]; rfl
    rw [this, e]; rfl
  · rw [List.concat_eq_append] at e
    rw [leave_frs e, e]
    simp [frOf]
/-- the times go on -/
theorem Tm.enter {r P : Int} (h : Tm H I n) (hr : i64 r) (hp : posOf (isSt r P) H.l < 0) (hP0 : 0 ≤ P) (hP : P ≤ nowOf H.l + 1) :
    Tm { H with l := H.l ++ [⟨r, P, n⟩], touches := H.touches ++ [⟨n, r, P⟩] } (I ++ [[]]) (n + 1) := by
  have hn := h.now
  have hsq : n * n ≤ (n + 1) * (n + 1) := Nat.mul_le_mul (by omega) (by omega)
  refine ⟨?_, ?_, ?_, ?_, ?_, ?_, ?_, ?_, ?_, ?_⟩
  · intro s hs
    rcases List.mem_append.1 hs with hs | hs
    · have := h.since s hs; omega
    · obtain rfl : s = ⟨r, P, n⟩ := by simpa using hs
      show (n : Int) < _; omega
  · intro x hx; have := h.reads x hx; omega
  · intro x hx
    rcases List.mem_append.1 hx with hx | hx
    · have := h.touches x hx; exact ⟨by omega, this.2⟩
    · obtain rfl : x = ⟨n, r, P⟩ := by simpa using hx
      exact ⟨by show (n : Int) < _; omega, hr⟩
  · intro s hs
    rcases List.mem_append.1 hs with hs | hs
    · have := h.stand s hs; exact ⟨this.1, this.2.1, by omega⟩
    · obtain rfl : s = ⟨r, P, n⟩ := by simpa using hs
      exact ⟨hr, hP0, by show P ≤ _; omega⟩
  · have := h.ll; simp; omega
  · have := h.lr; simp; omega
  · have := h.lt; simp; omega
  · have := h.li; simp; omega
  · intro x hx
    rcases List.mem_append.1 hx with hx | hx
    · have := h.inv x hx; exact ⟨by omega, this.2⟩
    · obtain rfl : x = [] := by simpa using hx
      simp
  · refine List.pairwise_append.2 ⟨h.apart, by simp, ?_⟩
    intro a ha b hb
    obtain rfl : b = ⟨r, P, n⟩ := by simpa using hb
    rintro ⟨e1, e2⟩
    have h1 : H.l.any (isSt r P) = false := by rw [← pos_any]; simpa using hp
    rw [List.any_eq_false] at h1
    exact h1 a ha (by simp [isSt, e1, e2])
theorem Tm.same (h : Tm H I n) : Tm H I (n + 1) := by
  have hsq : n * n ≤ (n + 1) * (n + 1) := Nat.mul_le_mul (by omega) (by omega)
  refine ⟨fun s hs => by have := h.since s hs; omega, fun s hs => by have := h.reads s hs; omega, fun s hs => by have := h.touches s hs; exact ⟨by omega, this.2⟩, fun s hs => by have := h.stand s hs; exact ⟨this.1, this.2.1, by omega⟩, by have := h.ll; omega, by have := h.lr; omega, by have := h.lt; omega, h.li, fun x hx => by have := h.inv x hx; exact ⟨by omega, this.2⟩, h.apart⟩
theorem Tm.touch {r P : Int} (h : Tm H I n) (hr : i64 r) : Tm { H with touches := H.touches ++ [⟨n, r, P⟩] } I (n + 1) := by
  have h' := h.same
  refine ⟨h'.since, h'.reads, ?_, h'.stand, h'.ll, h'.lr, ?_, h'.li, h'.inv, h'.apart⟩
  · intro x hx
    rcases List.mem_append.1 hx with hx | hx
    · exact h'.touches x hx
    · obtain rfl : x = ⟨n, r, P⟩ := by simpa using hx
      exact ⟨by show (n : Int) < _; omega, hr⟩
  · have := h.lt; simp; omega
theorem Tm.read {r P : Int} (h : Tm H I n) (hr : i64 r) (k : Nat) (hk : k < H.l.length) : Tm { H with reads := H.reads ++ [⟨n, k⟩], touches := H.touches ++ [⟨n, r, P⟩] } (readI H I k) (n + 1) := by
  have h' := h.touch (P := P) hr
  refine ⟨h'.since, ?_, h'.touches, h'.stand, h'.ll, ?_, h'.lt, ?_, ?_, h'.apart⟩
  · intro x hx
    rcases List.mem_append.1 hx with hx | hx
    · have := h.reads x hx; omega
    · obtain rfl : x = ⟨n, k⟩ := by simpa using hx
      show (n : Int) < _; omega
  · have := h.lr; simp; omega
  · simp [readI, h.li]
  · intro x hx
    rcases List.mem_or_eq_of_mem_set hx with hx | rfl
    · exact h'.inv x hx
    · have hki : k < I.length := by rw [h.li]; exact hk
      have hg : I.getD k [] = I[k] := by simp [List.getD, hki]
      have h0 := h.inv _ (List.getElem_mem hki)
      rw [hg]
      constructor
      · have h1 := h.ll
        have h2 : ((H.l.map St.rule).drop (k + 1)).length ≤ n := by simp; omega
        have h3 : (n + 1) * (n + 1) = n * n + n + n + 1 := by rw [Nat.add_mul, Nat.mul_add]; omega
        rw [List.length_append]
        omega
      · intro y hy
        rcases List.mem_append.1 hy with hy | hy
        · exact h0.2 y hy
        · obtain ⟨s, hs, rfl⟩ := List.mem_map.1 (List.mem_of_mem_drop hy)
          exact (h.stand s hs).1
theorem Tm.leave {l : List St} {s : St} (h : Tm H I n) (e : H.l = l ++ [s]) : Tm { H with l := l } (I.take l.length) (n + 1) := by
  have h' := h.same
  have hm : ∀ x ∈ l, x ∈ H.l := fun x hx => by rw [e]; exact List.mem_append_left _ hx
  have hle : H.l.length = l.length + 1 := by rw [e]; simp
  refine ⟨fun x hx => h'.since x (hm x hx), h'.reads, h'.touches, fun x hx => h'.stand x (hm x hx), by have := h'.ll; show l.length ≤ _; omega, h'.lr, h'.lt, ?_, fun x hx => h'.inv x (List.mem_of_mem_take hx), ?_⟩
  · have := h.li; simp; omega
  · have := h.apart; rw [e, List.pairwise_append] at this; exact this.1
end
end Go.Proofs.Ytjmidomcgaijjaa
