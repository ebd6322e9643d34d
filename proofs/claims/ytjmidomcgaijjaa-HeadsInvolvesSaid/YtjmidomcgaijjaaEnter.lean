/- Entering: an activation more. -/
import Derived.Test.YtjmidomcgaijjaaTouch
import Derived.Test.YtjmidomcgaijjaaApp
namespace Go.Proofs.Ytjmidomcgaijjaa
set_option linter.unusedVariables false
open Go.RowKit

theorem cells_newA (W : World) (t : TypeId) (xs : List Value) (b : Nat) (hb : b = W.heap.size) :
    ∀ a, some (⟨b, 0, none⟩ : Addr) = some a → ∀ j u, xs[j]? = some u → (W.alloc (.cells xs.toArray t)).cell? (a.add j) = some u := by
  rintro a ⟨⟩ j u hu
  subst hb
  rw [Addr.add_lit, Nat.zero_add, (Blk.new W t xs.toArray).cell]
  simpa using hu

theorem StkC.own_ne {w : World} {p : Nat} {v : Value} {cs : List FrC} (h : StkC w p v cs) : v.ownBlock ≠ some p := by
  rcases h.row.2 with ⟨rfl, _⟩ | ⟨g, cap, cur, rfl, _, hg, _⟩
  · simp [Value.ownBlock]
  · intro e
    simp [Value.ownBlock] at e
    exact Blk.ne_ (t := 83) hg h.blk (by decide) e

def newFr (r pl : Int) (m : Nat) : FrC := ⟨⟨r, pl, [], [], false⟩, m, m + 1⟩
/-- An activation more, its two sets just made. -/
theorem StkC.push {w w2 : World} {p : Nat} {v v' : Value} {cs : List FrC} (h : StkC w p v cs) (r pl : Int) (o : Obj)
    (hrow : w2.ownsRow 0 83 5 v' (cs.length + 1) (rowOf cs ++ [.int .i64 r, .int .i64 pl, .map (some w.heap.size), .map (some (w.heap.size + 1)), .bool false]))
    (hu : Upd (fun k => v.ownBlock = some k) (((w.alloc (.map #[] 0)).alloc (.map #[] 0)).alloc o) w2) (hv : ∀ k, v'.ownBlock = some k → v.ownBlock = some k ∨ w.heap.size ≤ k) :
    StkC (w2.setCell ⟨p, 1, none⟩ v') p v' (cs ++ [newFr r pl w.heap.size]) ∧ Upd (Foot p v cs) w (w2.setCell ⟨p, 1, none⟩ v') ∧
      ∀ k, Foot p v' (cs ++ [newFr r pl w.heap.size]) k → Foot p v cs k ∨ w.heap.size ≤ k := by
  have hb3 : Below w.heap.size w (((w.alloc (.map #[] 0)).alloc (.map #[] 0)).alloc o) := ((((ext_refl w).alloc (Nat.le_refl _) _).alloc (by simp) _).alloc (by simp; omega) _)
  have h3 := h.ext hb3
  have hself : ∀ g, v'.ownBlock = some g → ∃ cur z, w2.heap[g]? = some (.cells cur 83 z) := by
    intro g hg
    rcases hrow.2 with ⟨rfl, _⟩ | ⟨g', cap, cur, rfl, _, hg', _⟩
    · cases hg
    · cases hg; exact ⟨cur, _, hg'⟩
  have hvp : v'.ownBlock ≠ some p := by
    intro e
    obtain ⟨cur, z, hc⟩ := hself p e
    have := h3.blk.keep hu h3.own_ne
    unfold Blk at this
    rw [hc] at this
    injection this with this
    injection this with _ ht
    exact absurd ht (by decide)
  have hm1 : SetAt (((w.alloc (.map #[] 0)).alloc (.map #[] 0)).alloc o) w.heap.size [] :=
    ((SetAt.new w).of_block (Below.heap_alloc _ _ _ (by simp))).of_block (Below.heap_alloc _ _ _ (by simp; omega))
  have hm2 : SetAt (((w.alloc (.map #[] 0)).alloc (.map #[] 0)).alloc o) (w.heap.size + 1) [] := by
    have := (SetAt.new (w.alloc (.map #[] 0))).of_block (Below.heap_alloc _ o _ (by simp))
    simpa using this
  have hnew : ∀ k, w.heap.size ≤ k → v.ownBlock ≠ some k := fun k hk e => by have := (h.row.lt k e).2; omega
  have huS : Upd (· = p) w2 (w2.setCell ⟨p, 1, none⟩ v') := setCell_upd w2 p 1 v'
  have hsize : w.heap.size ≤ (((w.alloc (.map #[] 0)).alloc (.map #[] 0)).alloc o).heap.size := hb3.size
  have hpl := h.lt
  refine ⟨⟨?_, ?_, ?_, ?_⟩, ?_, ?_⟩
  · have := (h3.blk.keep hu h3.own_ne).set_ 1 v'
    simpa using this
  · rw [List.length_append, rowOf_snoc]
    exact ownsRow_keep hrow huS (fun k hk e => hvp (by rw [hk, e]))
  · intro c hc
    rcases List.mem_append.1 hc with hc | hc
    · have hs := h3.sets c hc
      have hne : ∀ k, SetAt (((w.alloc (.map #[] 0)).alloc (.map #[] 0)).alloc o) k c.f.touched ∨ SetAt (((w.alloc (.map #[] 0)).alloc (.map #[] 0)).alloc o) k c.f.involved → v.ownBlock ≠ some k ∧ k ≠ p := by
        intro k hk
        have : ∃ es cl, (((w.alloc (.map #[] 0)).alloc (.map #[] 0)).alloc o).heap[k]? = some (.map es cl) := by
          rcases hk with ⟨es, cl, e, _⟩ | ⟨es, cl, e, _⟩ <;> exact ⟨es, cl, e⟩
        obtain ⟨es, cl, he⟩ := this
        refine ⟨fun e => ?_, (map_ne_cells h3.blk he).symm⟩
        rcases h3.row.2 with ⟨rfl, _⟩ | ⟨g, cap, cur, rfl, _, hg, _⟩
        · cases e
        · cases e; exact map_ne_cells hg he rfl
      have a := hne _ (.inl hs.1)
      have b := hne _ (.inr hs.2)
      exact ⟨(hs.1.keep hu a.1).keep huS a.2, (hs.2.keep hu b.1).keep huS b.2⟩
    · simp at hc
      subst hc
      exact ⟨(hm1.keep hu (hnew _ (Nat.le_refl _))).keep huS (show w.heap.size ≠ p by omega), (hm2.keep hu (hnew _ (by omega))).keep huS (show w.heap.size + 1 ≠ p by omega)⟩
  · unfold mapsOf
    rw [List.flatMap_append, List.nodup_append]
    refine ⟨h.nodup, by simp [newFr], ?_⟩
    intro a ha b hb
    have := h.foot_lt (.inr (.inr ha))
    simp [newFr] at hb
    omega
  · have hx : Upd (Foot p v cs) w w2 := (Upd.of_ext hb3).trans' hu (fun i hi e => .inr (.inl e))
    exact hx.setCell (fun _ => .inl rfl) v'
  · intro k hk
    rcases hk with rfl | hk | hk
    · exact .inl (.inl rfl)
    · rcases hv k hk with h | h
      · exact .inl (.inr (.inl h))
      · exact .inr h
    · unfold mapsOf at hk
      rw [List.flatMap_append, List.mem_append] at hk
      rcases hk with hk | hk
      · exact .inl (.inr (.inr hk))
      · simp [newFr] at hk
        exact .inr (by omega)

set_option maxRecDepth 100000 in
set_option maxHeartbeats 800000 in
theorem enter_twice (cs : List FrC) (v : Value) (r pl : Int) (p : Nat) (w : World) (hs : StkC w p v cs) (hpos : 0 ≤ posOf (isPair r pl) (frs cs)) :
    Calls Try.prog 21 #[.pointer (some ⟨p, 0, none⟩), .int .i64 r, .int .i64 pl] w fun e w' => e = .returned (.int .i64 8) ∧ Below w.heap.size w w' := by
  have HI := Lib.hid (is_any p w hs.c0)
  have HA := Lib.hid (at_any cs v r pl p w hs)
  generalize posOf (isPair r pl) (frs cs) = q at *
  clear hs
  go_enter Try.func21, Try.ntmps21
  go_wp2_with (first
    | (go_at_call 39; refine HI.out.mono ?_; rintro e w1 ⟨rfl, rfl⟩)
    | (go_at_call 40; refine HA.out.mono ?_; rintro e w1 ⟨rfl, hb1⟩))
  go_ret
  exact ⟨rfl, hb1⟩
set_option maxRecDepth 100000 in
set_option maxHeartbeats 800000 in
theorem enter_low (cs : List FrC) (v : Value) (r pl : Int) (p : Nat) (w : World) (hs : StkC w p v cs) (hpos : posOf (isPair r pl) (frs cs) < 0) (hlow : lowOf (frs cs) pl = true) :
    Calls Try.prog 21 #[.pointer (some ⟨p, 0, none⟩), .int .i64 r, .int .i64 pl] w fun e w' => e = .returned (.int .i64 2) ∧ Below w.heap.size w w' := by
  have HI := Lib.hid (is_any p w hs.c0)
  have HA := Lib.hid (at_any cs v r pl p w hs)
  have HL := Lib.hid fun w1 (h : Below w.heap.size w w1) => low_any cs v pl p w1 (hs.ext h)
  rw [hlow] at HL
  generalize posOf (isPair r pl) (frs cs) = q at *
  clear hs hlow
  go_enter Try.func21, Try.ntmps21
  go_wp2_with (first
    | (go_at_call 39; refine HI.out.mono ?_; rintro e w1 ⟨rfl, rfl⟩)
    | (go_at_call 40; refine HA.out.mono ?_; rintro e w1 ⟨rfl, hb1⟩)
    | (go_at_call 46; refine (HL.out _ hb1).mono ?_; rintro e w2 ⟨rfl, rfl⟩))
  go_ret
  exact ⟨rfl, hb1⟩

set_option maxRecDepth 100000 in
set_option maxHeartbeats 800000 in
theorem enter_ok (cs : List FrC) (v : Value) (r pl : Int) (p : Nat) (w : World) (hs : StkC w p v cs) (hpos : posOf (isPair r pl) (frs cs) < 0) (hlow : lowOf (frs cs) pl = false) (hn : cs.length ≤ 1000000) :
    Calls Try.prog 21 #[.pointer (some ⟨p, 0, none⟩), .int .i64 r, .int .i64 pl] w fun e w' => e = .returned (.int .i64 0) ∧
      ∃ v' cs', StkC w' p v' cs' ∧ frs cs' = (frs cs ++ [(⟨r, pl, [], [], false⟩ : Fr)]).map (touchF pl [r]) ∧ Upd (Foot p v cs) w w' ∧ ∀ k, Foot p v' cs' k → Foot p v cs k ∨ w.heap.size ≤ k := by
  have HI := Lib.hid (is_any p w hs.c0)
  have HA := Lib.hid (at_any cs v r pl p w hs)
  have HL := Lib.hid fun w1 (h : Below w.heap.size w w1) => low_any cs v pl p w1 (hs.ext h)
  rw [hlow] at HL
  generalize posOf (isPair r pl) (frs cs) = q at *
  have HS := Lib.hid hs
  clear hs hlow
  obtain ⟨i0, hi, hz0, hz1, hz2⟩ := info_parts (P := Try.prog) (e := 83) (z := .agg #[.int .i64 0, .int .i64 0, .map none, .map none, .bool false]) (size := 5) (bytes := 40) (by kernel_rfl)
  have hmm := @run_makeMap Try.prog
  go_enter Try.func21, Try.ntmps21
  go_wp2_with (first
    | (go_at_call 39; refine HI.out.mono ?_; rintro e w1 ⟨rfl, rfl⟩)
    | (go_at_call 40; refine HA.out.mono ?_; rintro e w1 ⟨rfl, hb1⟩; have hc1 := (HS.out.ext hb1).c1; have hp1 := (HS.out.ext hb1).lt)
    | (go_at_call 46; refine (HL.out _ hb1).mono ?_; rintro e w2 ⟨rfl, rfl⟩)
    | (at_builtin; refine wpList_app rfl _ _ 76 rfl 83 i0 _ 5 40 Try.underlying76 hi hz0 hz1 hz2 rfl (by decide) v cs.length (rowOf cs) rfl ((((HS.out.ext hb1).row.alloc _).alloc _).alloc _) _ 1 1 [.int .i64 r, .int .i64 pl, .map (some w1.heap.size), .map (some (w1.heap.size + 1)), .bool false] rfl rfl (by simp) (cells_newA _ _ _ _ (by simp)) (by simp [Value.oneCell']) (by unfold maxLen; omega) (by omega) ?_
       intro A2 c2 w2 hrow2 hu2 hv2 hz2'
       have HP := Lib.hid ((HS.out.ext hb1).push r pl _ hrow2 hu2 (fun k hk => (hv2 k hk).imp id (fun h => by simp at h; omega)))
       have hB2 := ((HS.out.ext hb1).ext (((((ext_refl w1).alloc (Nat.le_refl _) _).alloc (by simp) _).alloc (by simp; omega) _))).blk.keep hu2 (fun e => (HS.out.own_ne e))
       have hc2 : w2.cell? ⟨p, 1, none⟩ = some v := (hB2.cell 1).trans rfl
       have hf2 := hB2.frozen 1
       have hp2 := hB2.lt
       clear hrow2 hu2 hv2 hB2 hz2')
    | (go_at_call 47; refine (touch_any _ _ _ [r] pl p _ (HP.out.1.ext ((ext_refl _).alloc (Nat.le_refl _) _)) ⟨_, _, rfl, Nat.le_refl _, by simp [maxLen], by simp, rfl, fun _ => ⟨_, rfl, cells_newA _ _ [.int .i64 r] _ (by simp) _ rfl⟩⟩).mono ?_; rintro e w3 ⟨rfl, hs3, hu3, hz3⟩))
  go_ret
  refine ⟨rfl, _, _, hs3, ?_, ?_, ?_⟩
  · rw [frs_up]; simp [frs, newFr]
  · obtain ⟨_, hq1, hq2⟩ := HP.out
    have hw : Upd (Foot p v cs) w w1 := Upd.of_ext hb1
    have h4 := (hw.trans hq1).alloc (.cells #[.int .i64 r] 3)
    refine h4.trans' hu3 (fun i hi hm => ?_)
    rcases hq2 i (.inr (.inr hm)) with h | h
    · exact h
    · have := hb1.size; omega
  · intro k hk
    obtain ⟨_, hq1, hq2⟩ := HP.out
    have hk' : Foot p (.slice A2 (cs.length + 1) c2) (cs ++ [newFr r pl w1.heap.size]) k := by
      rcases hk with h | h | h
      · exact .inl h
      · exact .inr (.inl h)
      · refine .inr (.inr ?_)
        have e := mapsOf_up (cs ++ [newFr r pl w1.heap.size]) (cs ++ [newFr r pl w1.heap.size]).length (touchF pl [r])
        rw [mapTo_all] at e
        rwa [e] at h
    rcases hq2 k hk' with h | h
    · exact .inl h
    · have := hb1.size; exact .inr (by omega)
end Go.Proofs.Ytjmidomcgaijjaa
