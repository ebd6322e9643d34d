/- Clones: of rows, of the map; a seed of its own; what may come behind, what is given. -/
import Derived.Test.YtchmlhceidociaaSdA
namespace Go.Proofs.Ytchmlhceidociaa
set_option linter.unusedVariables false
set_option linter.unusedSimpArgs false
open Go.RowKit

theorem Blk.at_ (w : World) (t : TypeId) (cs : Array Value) {g : Nat} (h : g = w.heap.size) : Blk (w.alloc (.cells cs t)) g t cs := by subst h; exact Blk.new w t cs
theorem own_empty (w : World) (t : TypeId) (sz : Nat) : (w.alloc (.cells #[] t)).ownsRow 0 t sz (.slice (some ⟨w.heap.size, 0, none⟩) 0 0) 0 [] :=
  ⟨by simp, .inr ⟨w.heap.size, 0, #[], rfl, Nat.zero_le _, heap_alloc_new w _, Nat.le_refl _, Nat.zero_le _, by simp, by simp⟩⟩
theorem twg_oneCell (ts : List Twg) : ∀ u ∈ ts.flatMap Twg.cells, u.oneCell' = true := by
  intro u hu
  obtain ⟨t, _, ht⟩ := List.mem_flatMap.1 hu
  simp [Twg.cells] at ht
  rcases ht with rfl | rfl | rfl | rfl | rfl <;> rfl
theorem twgs_len (ts : List Twg) : (ts.flatMap Twg.cells).length = ts.length * 5 := by
  induction ts with
  | nil => rfl
  | cons c cs ih =>
    rw [List.flatMap_cons, List.length_append, ih, List.length_cons, Nat.add_mul, Nat.one_mul, Nat.add_comm]
    rfl

set_option maxRecDepth 100000 in
set_option maxHeartbeats 800000 in
theorem cloneTw (n : Nat) (xs : List Value) (v : Value) (w : World) (ht : Reads w 5 v n xs) (h1c : ∀ u ∈ xs, u.oneCell' = true) (hn : n ≤ 1000000) :
    Calls Try.prog 41 #[v] w fun e w' => ∃ u, e = .returned u ∧ w'.ownsRow 0 61 5 u n xs ∧ (∀ k, u.ownBlock = some k → w.heap.size ≤ k) ∧ Below w.heap.size w w' := by
  obtain ⟨A, c, rfl, h1, h2, h0, h3, h4⟩ := ht
  obtain ⟨i0, hi, hz0, hz1, hz2⟩ := info_parts (P := Try.prog) (e := 61) (z := .agg #[.int .i64 0, .int .i64 0, .int .i64 0, .int .i64 0, .int .i64 0]) (size := 5) (bytes := 40) (by kernel_rfl)
  have hnil : ∀ (W : World) (a : Option Addr) (n c : Nat), (binOp .eql 31 (.slice a n c) (.slice none 0 0)).run Try.prog W = .ok (.bool a.isNone) W := fun W a n c => Lib.run_eql_slice_nil W _ _ a n c 0 0 Try.underlying31
  cases A with
  | none =>
    have := h0 rfl
    obtain rfl : n = 0 := by omega
    have hz : xs = [] := List.eq_nil_of_length_eq_zero (by omega)
    subst hz
    subst this
    clear h0 h1 h2 h3 h4
    go_enter Try.func41, Try.ntmps41
    go_wp2
    go_ret
    exact ⟨_, rfl, World.ownsRow_nil _ _ _ _, by simp [Value.ownBlock], ext_refl w⟩
  | some ad =>
    have hcl : ∀ b, some ad = some b → ∀ j u, xs[j]? = some u → w.cell? (b.add j) = some u := by
      rintro b ⟨⟩ j u hu
      have : 0 < n := by
        rcases Nat.eq_zero_or_pos n with h | h
        · subst h
          have : xs = [] := List.eq_nil_of_length_eq_zero (by omega)
          subst this
          simp at hu
        · exact h
      obtain ⟨ad', e, hc⟩ := h4 this
      cases e
      exact hc j u hu
    have HCL := Lib.hid hcl
    have HXL := Lib.hid h3
    clear h0 h3 h4 hcl
    go_enter Try.func41, Try.ntmps41
    go_wp2_with (first
      | (at_builtin; (refine wpList_app rfl _ _ 31 rfl 61 i0 _ 5 40 Try.underlying31 hi hz0 hz1 hz2 rfl (by decide) (.slice (some ⟨w.heap.size, 0, none⟩) 0 0) 0 [] rfl (own_empty _ _ _) (some ad) n c xs rfl HXL.out (by simp) (fun b hb j u hu => (World.cell?_alloc_lt w _ _ (World.block_lt_of_cell? w _ (HCL.out b hb j u hu))).trans (HCL.out b hb j u hu)) h1c (by unfold maxLen; omega) (by omega) ?_)
         intro A2 c2 w2 hrow2 hu2 hv2 hz2'))
    go_ret
    have hb1 : Below w.heap.size w w2 := ((ext_refl w).alloc (Nat.le_refl _) (.cells #[] 61)).trans (hu2.below (by simp) (fun k hk e => by simp [Value.ownBlock] at e; omega))
    rw [Nat.zero_add] at hrow2 hv2
    refine ⟨.slice A2 n c2, by simp, by simpa using hrow2, fun k hk => ?_, hb1⟩
    rcases hv2 k hk with h | h
    · simp [Value.ownBlock] at h; omega
    · simp at h; omega

set_option maxRecDepth 100000 in
set_option maxHeartbeats 800000 in
theorem clonePr (n : Nat) (xs : List Value) (v : Value) (w : World) (ht : Reads w 2 v n xs) (h1c : ∀ u ∈ xs, u.oneCell' = true) (hn : n ≤ 1000000) :
    Calls Try.prog 29 #[v] w fun e w' => ∃ u, e = .returned u ∧ w'.ownsRow 0 64 2 u n xs ∧ (∀ k, u.ownBlock = some k → w.heap.size ≤ k) ∧ Below w.heap.size w w' := by
  obtain ⟨A, c, rfl, h1, h2, h0, h3, h4⟩ := ht
  obtain ⟨i0, hi, hz0, hz1, hz2⟩ := info_parts (P := Try.prog) (e := 64) (z := .agg #[.int .i64 0, .int .i64 0]) (size := 2) (bytes := 16) (by kernel_rfl)
  have hnil : ∀ (W : World) (a : Option Addr) (n c : Nat), (binOp .eql 53 (.slice a n c) (.slice none 0 0)).run Try.prog W = .ok (.bool a.isNone) W := fun W a n c => Lib.run_eql_slice_nil W _ _ a n c 0 0 Try.underlying53
  cases A with
  | none =>
    have := h0 rfl
    obtain rfl : n = 0 := by omega
    have hz : xs = [] := List.eq_nil_of_length_eq_zero (by omega)
    subst hz
    subst this
    clear h0 h1 h2 h3 h4
    go_enter Try.func29, Try.ntmps29
    go_wp2
    go_ret
    exact ⟨_, rfl, World.ownsRow_nil _ _ _ _, by simp [Value.ownBlock], ext_refl w⟩
  | some ad =>
    have hcl : ∀ b, some ad = some b → ∀ j u, xs[j]? = some u → w.cell? (b.add j) = some u := by
      rintro b ⟨⟩ j u hu
      have : 0 < n := by
        rcases Nat.eq_zero_or_pos n with h | h
        · subst h
          have : xs = [] := List.eq_nil_of_length_eq_zero (by omega)
          subst this
          simp at hu
        · exact h
      obtain ⟨ad', e, hc⟩ := h4 this
      cases e
      exact hc j u hu
    have HCL := Lib.hid hcl
    have HXL := Lib.hid h3
    clear h0 h3 h4 hcl
    go_enter Try.func29, Try.ntmps29
    go_wp2_with (first
      | (at_builtin; (refine wpList_app rfl _ _ 53 rfl 64 i0 _ 2 16 Try.underlying53 hi hz0 hz1 hz2 rfl (by decide) (.slice (some ⟨w.heap.size, 0, none⟩) 0 0) 0 [] rfl (own_empty _ _ _) (some ad) n c xs rfl HXL.out (by simp) (fun b hb j u hu => (World.cell?_alloc_lt w _ _ (World.block_lt_of_cell? w _ (HCL.out b hb j u hu))).trans (HCL.out b hb j u hu)) h1c (by unfold maxLen; omega) (by omega) ?_)
         intro A2 c2 w2 hrow2 hu2 hv2 hz2'))
    go_ret
    have hb1 : Below w.heap.size w w2 := ((ext_refl w).alloc (Nat.le_refl _) (.cells #[] 64)).trans (hu2.below (by simp) (fun k hk e => by simp [Value.ownBlock] at e; omega))
    rw [Nat.zero_add] at hrow2 hv2
    refine ⟨.slice A2 n c2, by simp, by simpa using hrow2, fun k hk => ?_, hb1⟩
    rcases hv2 k hk with h | h
    · simp [Value.ownBlock] at h; omega
    · simp at h; omega

theorem rowP_oneCell (cs : List PrC) : ∀ u ∈ rowP cs, u.oneCell' = true := by
  intro u hu
  obtain ⟨t, _, ht⟩ := List.mem_flatMap.1 hu
  simp [PrC.cells] at ht
  rcases ht with rfl | rfl <;> rfl
theorem cloneT_any (ts : List Twg) (v : Value) (w : World) (ht : Twgs w v ts) (hn : ts.length ≤ 1000000) :
    Calls Try.prog 41 #[v] w fun e w' => ∃ u, e = .returned u ∧ RowT w' u ts ∧ (∀ k, u.ownBlock = some k → w.heap.size ≤ k) ∧ Below w.heap.size w w' :=
  cloneTw ts.length _ v w ht (twg_oneCell ts) hn

set_option maxRecDepth 100000 in
set_option maxHeartbeats 400000 in
theorem cloneM_any (m : Nat) (l : List ((Int × Int) × Value)) (w : World) (hs : MapAt w m enc2 l) :
    Calls Try.prog 30 #[.map (some m)] w fun e w' => e = .returned (.map (some w.heap.size)) ∧ MapAt w' w.heap.size enc2 l ∧ Below w.heap.size w w' ∧ w'.heap.size = w.heap.size + 1 := by
  obtain ⟨es, clock, hm, hi⟩ := hs
  have hrun : ∀ t, (Extern.MapsClone.clone #[.iface t (.map (some m))]).run Try.prog w = .ok (.iface t (.map (some w.heap.size))) (w.alloc (.map es clock)) := by
    intro t
    change Sem.run Try.prog (do
      let x ← getObj m
      match x with
      | .map entries clock => do
        let n ← newObj (.map entries clock)
        pure (Value.iface t (.map (some n)))
      | _ => stuck "maps.clone: a map expected") w = _
    simp [getObj, newObj, Sem.run, hm]
  have hcall : ∀ t, (callFunc 43 #[.iface t (.map (some m))]).run Try.prog w = .ok (.value (.iface t (.map (some w.heap.size)))) (w.alloc (.map es clock)) := by
    intro t
    rw [run_callFunc_extern (e := Extern.MapsClone.clone) Try.func43 (by kernel_rfl) (by kernel_rfl) (by kernel_rfl) (by rfl), hrun]
    rfl
  have hnil := run_eql_map_nil (P := Try.prog) w 52 _ _ (some m) Try.underlying52
  go_enter Try.func30, Try.ntmps30
  have hass : ∀ (W : World) (r : Option Nat), (Instr.typeAssert (.iface 52 (.map r)) 20 52 false).run Try.prog W = .ok (.map r) W := fun _ _ => by kernel_rfl
  go_wp2
  go_ret
  exact ⟨rfl, ⟨es, clock, heap_alloc_new w _, hi⟩, (ext_refl w).alloc (Nat.le_refl _) _, by simp⟩

set_option maxRecDepth 100000 in
set_option maxHeartbeats 800000 in
theorem copied_any (en lv : Int) (v : Value) (ts : List Twg) (w : World) (ht : Twgs w v ts) (hn : ts.length ≤ 1000000) :
    Calls Try.prog 27 #[.agg #[.int .i64 en, .int .i64 lv, v]] w fun e w' => ∃ u, e = .returned (.agg #[.int .i64 en, .int .i64 lv, u]) ∧ RowT w' u ts ∧ (∀ k, u.ownBlock = some k → w.heap.size ≤ k) ∧ Below w.heap.size w w' := by
  have HC := Lib.hid (fun W (h : Below w.heap.size w W) => cloneT_any ts v W (ht.of_cells (fun a u ha => (h.cell (World.block_lt_of_cell? w a ha)).trans ha)) hn)
  obtain ⟨A, c, rfl, _⟩ := ht.form
  clear ht
  go_enter Try.func27, Try.ntmps27
  go_wp2_with (first
    | (go_at_call 41; refine (HC.out _ (((ext_refl w).alloc (Nat.le_refl _) _).alloc (by simp) _)).mono ?_; rintro e w1 ⟨u, rfl, hr, hn', hb⟩
       obtain ⟨A', c', rfl⟩ := hr.form
       have hB1 := ((Blk.new w 42 #[.int .i64 en, .int .i64 lv, .slice A ts.length c]).alloc (.cells #[.int .i64 0, .int .i64 0, .slice none 0 0] 42)).ext hb
       have hB2 := (Blk.at_ (w.alloc (.cells #[.int .i64 en, .int .i64 lv, .slice A ts.length c] 42)) 42 #[.int .i64 0, .int .i64 0, .slice none 0 0] (g := w.heap.size + 1) (by simp)).ext hb
       have c0 := hB1.cell 0
       have c1 := hB1.cell 1
       have c2 := hB1.cell 2
       have cf := hB1.frozen 2
       have cl := hB1.lt
       have d0 := hB2.frozen 0
       have d1 := hB2.frozen 1
       have d2 := hB2.frozen 2
       have e0 := hB2.cell 0
       have e1 := hB2.cell 1
       have e2 := hB2.cell 2
       have dl := hB2.lt
       have HR := Lib.hid (And.intro hr (And.intro hn' hb))
       clear hr hn' hb hB1 hB2))
  obtain ⟨hr, hn', hb⟩ := HR.out
  refine bodyPost_ret (v := .agg #[.int .i64 en, .int .i64 lv, .slice A' ts.length c']) (by simp [results, Try.results27, go_sem, c0, c1, c2, e0, e1, e2, cl, dl]) rfl ⟨.slice A' ts.length c', rfl, ?_, ?_, ?_⟩
  all_goals
    have hW := ((ext_refl w).alloc (Nat.le_refl _) (.cells #[.int .i64 en, .int .i64 lv, .slice A ts.length c] 42)).alloc (by simp) (.cells #[.int .i64 0, .int .i64 0, .slice none 0 0] 42)
    have hU := (((((Upd.refl (fun k => k = w.heap.size ∨ k = w.heap.size + 1) w1).setCell (p := ⟨w.heap.size, 2, none⟩) (fun _ => .inl rfl) (.slice A' ts.length c')).setCell (p := ⟨w.heap.size + 1, 0, none⟩) (fun _ => .inr rfl) (.int .i64 en)).setCell (p := ⟨w.heap.size + 1, 1, none⟩) (fun _ => .inr rfl) (.int .i64 lv)).setCell (p := ⟨w.heap.size + 1, 2, none⟩) (fun _ => .inr rfl) (.slice A' ts.length c'))
    have hn2 : ∀ k, (Value.slice A' ts.length c').ownBlock = some k → w.heap.size + 1 + 1 ≤ k := fun k hk => by have := hn' k hk; simpa using this
  · refine hr.keep hU (fun k hk h => ?_)
    have := hn2 k hk
    omega
  · intro k hk
    have := hn2 k hk
    omega
  · exact (ext_trans hW hb).trans (hU.below (ext_trans hW hb).size (fun k hk h => by omega))

def furtherB (x : Pr) (en lv : Int) : Bool := !x.has || (decide (x.end_ < en) && lv == x.level)
set_option maxRecDepth 100000 in
set_option maxHeartbeats 800000 in
theorem further_any (x : Pr) (en lv : Int) (v u : Value) (w : World) :
    Calls Try.prog 26 #[.agg #[.bool x.has, .int .i64 x.end_, .int .i64 x.level, v], .agg #[.int .i64 en, .int .i64 lv, u]] w fun e w' => e = .returned (.bool (furtherB x en lv)) ∧ Below w.heap.size w w' := by
  obtain ⟨rule, place, has, end_, level, tree⟩ := x
  unfold furtherB
  have hW := fun t1 t2 (c1 c2 : Array Value) => ((ext_refl w).alloc (Nat.le_refl _) (.cells c1 t1)).alloc (by simp) (.cells c2 t2)
  cases has with
  | false =>
    go_enter Try.func26, Try.ntmps26
    go_wp2
    go_ret
    exact ⟨rfl, hW _ _ _ _⟩
  | true =>
    by_cases h1 : end_ < en
    · by_cases h2 : (lv == level) = true
      · simp only [h1, h2]
        go_enter Try.func26, Try.ntmps26
        go_wp2
        go_ret
        exact ⟨rfl, hW _ _ _ _⟩
      · have h2' : (lv == level) = false := by simpa using h2
        simp only [h1, h2']
        go_enter Try.func26, Try.ntmps26
        go_wp2
        go_ret
        exact ⟨rfl, hW _ _ _ _⟩
    · simp only [h1]
      go_enter Try.func26, Try.ntmps26
      go_wp2
      go_ret
      exact ⟨rfl, hW _ _ _ _⟩
def givesB (x : Pr) (lv : Int) : Bool := x.has && decide (x.level ≤ lv)
set_option maxRecDepth 100000 in
set_option maxHeartbeats 800000 in
theorem gives_any (x : Pr) (lv : Int) (v : Value) (w : World) :
    Calls Try.prog 38 #[.agg #[.bool x.has, .int .i64 x.end_, .int .i64 x.level, v], .int .i64 lv] w fun e w' => e = .returned (.bool (givesB x lv)) ∧ Below w.heap.size w w' := by
  obtain ⟨rule, place, has, end_, level, tree⟩ := x
  unfold givesB
  have hW := fun t1 (c1 : Array Value) => (ext_refl w).alloc (Nat.le_refl _) (.cells c1 t1)
  cases has with
  | false =>
    go_enter Try.func38, Try.ntmps38
    go_wp2
    go_ret
    exact ⟨rfl, hW _ _⟩
  | true =>
    by_cases h1 : level ≤ lv
    all_goals
      simp only [h1]
      go_enter Try.func38, Try.ntmps38
      go_wp2
      go_ret
      exact ⟨rfl, hW _ _⟩
end Go.Proofs.Ytchmlhceidociaa
