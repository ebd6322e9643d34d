/- A region that draws its order, walked once: what is read by one fact on the world, what writes or calls alone; the last operation may turn what was read. -/
import Derived.Test.YtchmlhceidociaaSplit
namespace Go.Proofs.Ytchmlhceidociaa
set_option linter.unusedVariables false

section
variable {P : Program} {ops : Array Oper} {md : Region.Mode} {Q : Exit → Act → World → Prop} {C S : World → Prop}

/-- what is listed was ready -/
def Closed (md : Region.Mode) (ops : Array Oper) (li : Array Bool) : Prop :=
  ∀ m p, ops[m]? = some p → li.getD m false = true → ∀ e ∈ p.after, Region.binds md e = true → li.getD e.on false = true
/-- some later one, the k-th at the latest, waits for each ahead of the k-th -/
def leadsTo (md : Region.Mode) (ops : Array Oper) (k : Nat) : Bool :=
  (List.range k).all fun i => (List.range (k + 1)).any fun j => decide (i < j) && (match ops[j]? with
    | some p => p.after.any fun e => Region.binds md e && e.on == i
    | none => false)
theorem getD_set_cases {li : Array Bool} {i m : Nat} (h : (li.setIfInBounds i true).getD m false = true) : m = i ∨ li.getD m false = true := by
  by_cases hm : i = m
  · exact .inl hm.symm
  · rw [getD_set_ne false hm] at h; exact .inr h
theorem Closed.set {li : Array Bool} (h : Closed md ops li) {i : Nat} (hr : i ∈ Region.ready md ops li) : Closed md ops (li.setIfInBounds i true) := by
  intro m p hp hm e he hb
  rcases getD_set_cases hm with rfl | hm
  · obtain ⟨_, p', hp', hall⟩ := mem_ready.1 hr
    rw [hp] at hp'
    cases hp'
    exact getD_set_true (hall e he hb)
  · exact getD_set_true (h m p hp hm e he hb)
theorem Closed.all {li : Array Bool} (h : Closed md ops li) {k : Nat} (hk : k ∈ Region.ready md ops li) (hl : leadsTo md ops k = true) : ∀ d i, i < k → k - i ≤ d → li.getD i false = true := by
  intro d
  induction d with
  | zero => intro i hi hd; omega
  | succ d ih =>
    intro i hi hd
    unfold leadsTo at hl
    rw [List.all_eq_true] at hl
    have h1 := hl i (List.mem_range.2 hi)
    rw [List.any_eq_true] at h1
    obtain ⟨j, hj, h2⟩ := h1
    rw [List.mem_range] at hj
    simp only [Bool.and_eq_true, decide_eq_true_eq] at h2
    obtain ⟨hij, h2⟩ := h2
    cases hp : ops[j]? with
    | none => rw [hp] at h2; cases h2
    | some p =>
      rw [hp] at h2
      rw [Array.any_eq_true'] at h2
      obtain ⟨e, he, h3⟩ := h2
      simp only [Bool.and_eq_true, beq_iff_eq] at h3
      obtain ⟨hb, rfl⟩ := h3
      rcases Nat.lt_or_ge j k with hjk | hjk
      · exact h j p hp (ih j hjk (by omega)) e he hb
      · obtain rfl : j = k := by omega
        obtain ⟨_, p', hp', hall⟩ := mem_ready.1 hk
        rw [hp] at hp'
        cases hp'
        exact hall e he hb

/-- whatever comes up next, S holds behind it, but behind the k-th -/
def wpAnyE (P : Program) (md : Region.Mode) (ops : Array Oper) (Q : Exit → Act → World → Prop) (S : World → Prop) (k : Nat) : Nat → Array Bool → Act → World → Prop
  | 0, li, a, w => Region.ready md ops li = [] ∧ Q .normal a w
  | n + 1, li, a, w => (Region.ready md ops li = [] → Q .normal a w) ∧
      ∀ i ∈ Region.ready md ops li, wpOp P ops Q i (fun b x => (i ≠ k → S x) ∧ wpAnyE P md ops Q S k n (li.setIfInBounds i true) b x) a w

variable {k : Nat}
theorem wpAnyE_any : ∀ (n : Nat) (li : Array Bool) (a : Act) (w : World), wpAnyE P md ops Q S k n li a w → wpAny P md ops Q n li a w
  | 0, _, _, _, h => h
  | n + 1, _, _, _, h => ⟨h.1, fun i hi => wpOp_mono (fun b x hb => wpAnyE_any n _ b x hb.2) (h.2 i hi)⟩

theorem wpAnyE_of_quiet {R : Act → Prop} (hCS : ∀ w, C w → S w) (hQ : ∀ a w, C w → R a → Q .normal a w) : ∀ (n : Nat) (li : Array Bool) (a : Act) (w : World), C w →
    wpAnyQ P md ops C R n li a → wpAnyE P md ops Q S k n li a w
  | 0, _, _, _, hw, h => ⟨h.1, hQ _ _ hw h.2⟩
  | n + 1, _, _, _, hw, h => ⟨fun h0 => hQ _ _ hw (h.1 h0), fun i hi => wpOp_of_qOp hw (fun b x hx hq => ⟨fun _ => hCS _ hx, wpAnyE_of_quiet hCS hQ n _ b x hx hq⟩) (h.2 i hi)⟩

theorem wpAnyE_early {i : Nat} {o : Oper} {v : Value} (hi : ops[i]? = some o) (hsel : ∀ (j : Nat) (p : Oper) cs b, ops[j]? = some p → p.op ≠ .select cs b)
    (hQ : ∀ c a w, Q (.panic c) (a.put o.dst v) w → Q (.panic c) a w) (hk : leadsTo md ops k = true) (hik : i < k) (n : Nat) : ∀ (li : Array Bool) (a : Act) (w : World), Closed md ops li →
      (∀ j p, ops[j]? = some p → j ≠ i → li.getD j true = false → (∀ e ∈ p.after, Region.binds md e = true → e.on ≠ i) → o.apart ops p = true) →
      i ∈ Region.ready md ops li → YieldsIf P ops S o v a → S w → wpAnyE P md ops Q S k n (li.setIfInBounds i true) (a.put o.dst v) w → wpAnyE P md ops Q S k (n + 1) li a w := by
  induction n with
  | zero =>
    intro li a w _ _ hr hy hS H
    refine ⟨fun h => absurd hr (by rw [h]; simp), fun j hj => ?_⟩
    rcases Decidable.em (j = i) with rfl | hne
    · exact hy.wpOp hi hS ⟨fun _ => hS, H⟩
    · exact absurd (ready_mono hj hne) (by rw [H.1]; simp)
  | succ n ih =>
    intro li a w hc hf hr hy hS H
    refine ⟨fun h => absurd hr (by rw [h]; simp), fun j hj => ?_⟩
    rcases Decidable.em (j = i) with rfl | hne
    · exact hy.wpOp hi hS ⟨fun _ => hS, H⟩
    · obtain ⟨hun, p, hp, hall⟩ := mem_ready.1 hj
      have hlis := (mem_ready.1 hr).1
      have hnl : li.getD i false = true → False := by
        intro h1
        by_cases hlt : i < li.size
        · rw [Array.getD_eq_getD_getElem?, Array.getElem?_eq_getElem hlt] at hlis h1
          simp at hlis h1
          rw [hlis] at h1
          cases h1
        · rw [Array.getD_eq_getD_getElem?, Array.getElem?_eq_none (by omega)] at h1
          cases h1
      have hno : ∀ e ∈ p.after, Region.binds md e = true → e.on ≠ i := by
        intro e he hb heq
        have h1 := hall e he hb
        rw [heq] at h1
        exact hnl h1
      have hjk : j ≠ k := by
        rintro rfl
        exact hnl (hc.all hj hk _ i hik (Nat.le_refl _))
      have hstep := wpOp_putIf hp (hf j p hp hne hun hno) (fun cs b => hsel i o cs b hi) (fun cs b => hsel j p cs b hp) hQ hy (H.2 j (ready_mono hj hne))
      refine wpOp_mono (fun b x hx => ?_) hstep
      obtain ⟨hyb, hSx, hrest⟩ := hx
      refine ⟨fun _ => hSx hjk, ih _ b x (hc.set hj) (fun m q hq hmi hml hmo => ?_) (ready_mono hr (Ne.symm hne)) hyb (hSx hjk) ?_⟩
      · refine hf m q hq hmi ?_ hmo
        rcases Decidable.em (m = j) with rfl | hmj
        · exact hun
        · rw [getD_set_ne true (Ne.symm hmj)] at hml; exact hml
      · rw [Array.setIfInBounds_comm _ _ hne]
        exact hrest

/-- what the walk hands on -/
def AtE (P : Program) (md : Region.Mode) (ops : Array Oper) (Q : Exit → Act → World → Prop) (S : World → Prop) (k n : Nat) (li : Array Bool) (a : Act) (w : World) : Prop := Closed md ops li ∧ leadsTo md ops k = true → wpAnyE P md ops Q S k n li a w

theorem drop_at {L rest : List Oper} {i : Nat} {o : Oper} (h : L.drop i = o :: rest) : L.toArray[i]? = some o := by
  have : L[i]? = (L.drop i)[0]? := by rw [List.getElem?_drop]; simp
  simp [this, h]
theorem AtE.take {L rest : List Oper} {n i : Nat} {o : Oper} {v : Value} {li : Array Bool} {a : Act} {w : World} (hi : L.drop i = o :: rest) (hs : Region.noSelect L.toArray = true) (hf : Region.free md L.toArray li i = true)
    (hr : (Region.ready md L.toArray li).contains i = true) (hQ : ∀ c a w, Q (.panic c) (a.put o.dst v) w → Q (.panic c) a w) (hik : i < k) (hy : YieldsIf P L.toArray S o v a) (hS : S w)
    (h : AtE P md L.toArray Q S k n (li.setIfInBounds i true) (a.put o.dst v) w) : AtE P md L.toArray Q S k (n + 1) li a w := fun hc =>
  have hr' : i ∈ Region.ready md L.toArray li := by simpa using hr
  wpAnyE_early (drop_at hi) (Region.noSelect_spec hs) hQ hc.2 hik n li a w hc.1 (Region.free_spec (drop_at hi) hf) hr' hy hS (h ⟨hc.1.set hr', hc.2⟩)
/-- just one may come up -/
theorem AtE.one {L rest : List Oper} {n i : Nat} {o : Oper} {li : Array Bool} {a : Act} {w : World} (hi : L.drop i = o :: rest) (hr : Region.ready md L.toArray li = [i])
    (h : ∀ K : Act → World → Prop, Shut (∀ b x, (i ≠ k → S x) → ((i ≠ k → S x) → AtE P md L.toArray Q S k n (li.setIfInBounds i true) b x) → K b x) → if Region.wanted o (yielded L.toArray a.tmps) = true then Oper.wp P o a w K Q else K (a.put o.dst undef) w) :
    AtE P md L.toArray Q S k (n + 1) li a w := by
  intro hc
  refine ⟨fun h0 => ?_, fun j hj => ?_⟩
  · rw [hr] at h0
    cases h0
  · have hji : j = i := by rw [hr] at hj; simpa using hj
    subst hji
    exact wpOp_step (drop_at hi) (fun K hK => h K (fun b x hS hW => hK b x ⟨hS, hW hS ⟨hc.1.set hj, hc.2⟩⟩))
theorem AtE.done {n : Nat} {li : Array Bool} {a : Act} {w : World} (hr : Region.ready md ops li = []) (h : Q .normal a w) : AtE P md ops Q S k n li a w := fun _ => by
  cases n with
  | zero => exact ⟨hr, h⟩
  | succ n => exact ⟨fun _ => h, by rw [hr]; simp⟩
/-- the rest only reads -/
theorem AtE.quiet {L l : List Oper} {fuel : Nat} {li : Array Bool} {a : Act} {w : World} (n : Nat) (hl : l = L.drop n) (hf : l.length = fuel)
    (hs : Region.noSelect L.toArray = true) (hB : Region.lexFrom md L.toArray fuel n li = true) (hCS : ∀ w, C w → S w) (hC : C w)
    (h : wpQuiet P L.toArray C (fun a' => ∀ w', C w' → Q .normal a' w') l a) : AtE P md L.toArray Q S k fuel li a w := fun _ => by
  subst hf
  refine wpAnyE_of_quiet (R := fun a' => ∀ w', C w' → Q .normal a' w') hCS (fun _ w' hw' h => h w' hw') _ _ _ _ hC ?_
  refine wpAnyQ_lex hs l n li a (fun j => ?_) hB h
  rw [hl, List.getElem?_drop]
  simp
/-- the beginning -/
theorem AtE.start {id : Nat} {a : Act} {w : World} (k : Nat) (hm : P.follows .mixedOrders = true) (hl : leadsTo .any ops k = true) (hS : S w.drew)
    (h : S w.drew → AtE P .any ops Q S k ops.size (Array.replicate ops.size false) a w.drew) : (Code.region id ops true).wp P Q a w :=
  have hc : Closed .any ops (Array.replicate ops.size false) := fun m p _ hm => by
    rw [Array.getD_eq_getD_getElem?, Array.getElem?_replicate] at hm
    split at hm <;> cases hm
  wp_region_any hm (wpAnyE_any (S := S) (k := k) _ _ _ _ (h hS ⟨hc, hl⟩))
end
end Go.Proofs.Ytchmlhceidociaa
