/- The store's methods: the live rules at a place; all methods by one law each. -/
import Derived.Test.YtchmlhceidociaaSdE
import Derived.Test.YtchmlhceidociaaSortI
namespace Go.Proofs.Ytchmlhceidociaa
set_option linter.unusedVariables false
set_option linter.unusedSimpArgs false
open Go.RowKit

def liveL (l : List Pr) (pl : Int) : List Int := (l.filter fun x => x.place == pl).map (·.rule)
theorem liveL_length (l : List Pr) (pl : Int) : (liveL l pl).length ≤ l.length := by unfold liveL; rw [List.length_map]; exact List.length_filter_le _ _
theorem liveL_snoc (l : List Pr) (x : Pr) (pl : Int) : liveL (l ++ [x]) pl = liveL l pl ++ (if x.place == pl then [x.rule] else []) := by
  unfold liveL
  rw [List.filter_append, List.map_append]
  congr 1
  by_cases h : (x.place == pl) = true
  · simp [List.filter_cons, h]
  · simp [List.filter_cons, h]

set_option maxRecDepth 100000 in
set_option maxHeartbeats 1600000 in
theorem slive_any (p m : Nat) (v : Value) (cs : List PrC) (pl : Int) (w : World) (hs : SdC w p v m cs) (hn : cs.length ≤ 1000000) :
    Calls Try.prog 33 #[.pointer (some ⟨p, 0, none⟩), .int .i64 pl] w fun e w' => ∃ u, e = .returned u ∧ w'.ownsRow 0 3 1 u (liveL (prs cs) pl).length ((sortL (liveL (prs cs) pl)).map (Value.int .i64)) ∧ Below w.heap.size w w' := by
  have HM := Lib.hid (made_any p m w hs.c1 hs.blk.lt)
  have d0 := hs.c0
  have dl := hs.blk.lt
  obtain ⟨A, c, rfl, hc, hm, -, hcells⟩ := hs.form
  unfold maxLen at hm
  obtain ⟨i0, hi, hz0, hz1, hz2⟩ := info_parts (P := Try.prog) (e := 3) (z := .int .i64 0) (size := 1) (bytes := 8) (by kernel_rfl)
  clear hs
  go_enter Try.func33, Try.ntmps33
  go_wp2_with (first
    | (go_at_call 21; refine HM.out.mono ?_; rintro e w1 ⟨rfl, rfl⟩))
  clear d0 dl HM
  go_loopw [4, 16] (fun o i wr => ∃ (k : Nat) (B : Option Addr) (d : Nat), k ≤ cs.length ∧ i = .int .i64 k ∧ o = .slice B (liveL (prs (cs.take k)) pl).length d ∧ wr.ownsRow 0 3 1 (.slice B (liveL (prs (cs.take k)) pl).length d) (liveL (prs (cs.take k)) pl).length ((liveL (prs (cs.take k)) pl).map (Value.int .i64)) ∧
      (∀ j, (Value.slice B (liveL (prs (cs.take k)) pl).length d).ownBlock = some j → w.heap.size ≤ j) ∧ Below w.heap.size w wr) (fun _ i _ => cs.length - (intOf i).toNat)
  case atStart => exact ⟨0, none, 0, Nat.zero_le _, rfl, rfl, World.ownsRow_nil _ _ _ _, by simp [Value.ownBlock], ext_refl w⟩
  case round =>
    obtain ⟨k, B, d, hk, rfl, rfl, hrow, hnew, hB⟩ := hrel
    have hll := liveL_length (prs (cs.take k)) pl
    have hl2 : (prs (cs.take k)).length ≤ 1000000 := by rw [prs_length]; simp; omega
    by_cases hlt : k < cs.length
    · obtain ⟨g, rfl, hg, hcell⟩ := hcells (by omega)
      obtain ⟨g0, g1⟩ := hcell k hlt
      have hkl : (k : Int) < (cs.length : Int) := by omega
      replace g0 := (hB.cell (p := ⟨g, k * 2, none⟩) hg).trans g0
      replace g1 := (hB.cell (p := ⟨g, k * 2 + 1, none⟩) hg).trans g1
      have hgr := Nat.lt_of_lt_of_le hg hB.size
      have hsn : liveL (prs (cs.take (k + 1))) pl = liveL (prs (cs.take k)) pl ++ (if cs[k].p.place == pl then [cs[k].p.rule] else []) := by
        rw [List.take_succ_eq_append_getElem hlt, prs_snoc, liveL_snoc]
      have HX := Lib.hid (And.intro hrow (And.intro hnew (And.intro hB hsn)))
      clear hcell hcells hrow hnew hsn
      generalize hx : cs[k] = x at *
      clear hx
      generalize liveL (prs (cs.take k)) pl = L at *
      by_cases hp : (x.p.place == pl) = true
      · have HP := Lib.hid hp
        go_wp2_with (first
          | (at_builtin; (refine wpList_app rfl _ _ 77 rfl 3 i0 _ 1 8 Try.underlying77 hi hz0 hz1 hz2 rfl (by decide) (.slice B L.length d) L.length (L.map (Value.int .i64)) rfl ((HX.out.1.alloc _).alloc _) _ 1 1 [.int .i64 x.p.rule] rfl rfl (by simp) (cells_newA _ _ _ _ (by simp)) (by simp [Value.oneCell']) (by unfold maxLen; omega) (by omega) ?_)
             intro A2 c2 w2 hrow2 hu2 hv2 hz2'
             have HR := Lib.hid (And.intro hrow2 (And.intro hu2 hv2))
             clear hrow2 hu2 hv2 hz2'))
        go_roundw
        case rel =>
          obtain ⟨h1, h2, h3, h4⟩ := HX.out
          obtain ⟨r1, r2, r3⟩ := HR.out
          rw [HP.out, if_pos rfl] at h4
          have hl : (L ++ [x.p.rule]).length = L.length + 1 := by simp
          have hBB := ((h3.alloc h3.size (.cells #[.int .i64 x.p.rule, .int .i64 x.p.place] 64)).alloc (by simp; have := h3.size; omega) (.cells #[.int .i64 x.p.rule] 3))
          refine ⟨k + 1, A2, c2, by omega, by go_num, by rw [h4, hl], ?_, fun j hj => ?_, ?_⟩
          · rw [h4, hl, List.map_append]; exact r1
          · rw [h4, hl] at hj
            rcases r3 j hj with h | h
            · exact h2 j h
            · simp at h; have := h3.size; omega
          · exact hBB.trans (r2.below hBB.size (fun j hj e => by have := h2 j e; omega))
        case measure => simp [intOf]; omega
      · have hp' : (x.p.place == pl) = false := by simpa using hp
        have HP := Lib.hid hp'
        clear hp
        go_wp2
        go_roundw
        case rel =>
          obtain ⟨h1, h2, h3, h4⟩ := HX.out
          rw [HP.out, if_neg (by simp), List.append_nil] at h4
          refine ⟨k + 1, B, d, by omega, by go_num, by rw [h4], ?_, ?_, h3.alloc h3.size _⟩
          · rw [h4]; exact h1.alloc _
          · rw [h4]; exact h2
        case measure => simp [intOf]; omega
    · obtain rfl : k = cs.length := by omega
      rw [List.take_length] at *
      rw [prs_length] at hll
      have HX := Lib.hid (And.intro hrow (And.intro hnew hB))
      clear hrow hnew hcells
      go_wp2_with (first
        | (go_at_call 44; refine (sortI_any _ (liveL (prs cs) pl) _ HX.out.1 (by omega)).mono ?_; rintro e Y ⟨rfl, hrY, huY⟩))
      go_ret
      exact ⟨.slice B (liveL (prs cs) pl).length d, rfl, hrY, hB.trans (huY.below hB.size (fun j hj e => by have := HX.out.2.1 j e; omega))⟩

/-- what is done, as rows -/
def beginA (l : List Pr) (r pl : Int) : Int × List Pr := if l.any (isP r pl) then (8, l) else (0, l ++ [newP r pl])
def growA (l : List Pr) (en lv : Int) (t : List Twg) : Int × List Pr :=
  match l.getLast? with
  | none => (5, l)
  | some x => if furtherB x en lv then (0, l.dropLast ++ [{ x with has := true, end_ := en, level := lv, tree := t }]) else (2, l)
def endA (l : List Pr) : Int × List Pr := if l = [] then (5, l) else (0, l.dropLast)
def zeroP : Pr := ⟨0, 0, false, 0, 0, []⟩
def readA (l : List Pr) (r pl lv : Int) : Pr × Int :=
  match l.find? (isP r pl) with
  | none => (zeroP, 1)
  | some x => if givesB x lv then (x, 3) else (zeroP, 2)

theorem prs_concat {cs : List PrC} {l : List Pr} {x : Pr} (h : prs cs = l ++ [x]) : ∃ cs' c, cs = cs' ++ [c] ∧ prs cs' = l ∧ c.p = x := by
  rcases List.eq_nil_or_concat cs with rfl | ⟨a, b, e⟩
  · simp [prs] at h
  · rw [List.concat_eq_append] at e
    subst e
    rw [prs_snoc] at h
    have := List.append_inj' h rfl
    exact ⟨a, b, rfl, this.1, by simpa using this.2⟩

theorem begin_uni (S : Nat → Prop) (l : List Pr) (r pl : Int) (p : Nat) (w : World) (hs : SS w p S l) (hn : l.length ≤ 1000000) :
    Calls Try.prog 9 #[.pointer (some ⟨p, 0, none⟩), .int .i64 r, .int .i64 pl] w fun e w' => ∃ T, e = .returned (.int .i64 (beginA l r pl).1) ∧ SS w' p T (beginA l r pl).2 ∧ Step S T w w' ∧ Upd (NT S w) w w' := by
  obtain ⟨v, m, cs, hc, rfl, rfl⟩ := hs
  unfold beginA
  cases hq : (prs cs).any (isP r pl) with
  | true =>
    refine (sbegin_twice p m v cs r pl w hc hq).mono ?_
    rintro e w' ⟨rfl, hb⟩
    exact ⟨SFoot p v m cs, rfl, ⟨v, m, cs, hc.ext hb, rfl, rfl⟩, Step.ext hb, Upd.of_ext hb⟩
  | false =>
    refine (sbegin_ok p m v cs r pl w hc hq (by rw [prs_length] at hn; exact hn)).mono ?_
    rintro e w' ⟨rfl, v', h1, h2, h3⟩
    refine ⟨SFoot p v' m (cs ++ [⟨newP r pl, .slice none 0 0⟩]), rfl, ⟨v', m, _, h1, by rw [prs_snoc]; rfl, rfl⟩, ⟨h2.mono (fun k _ hk => hk.foot), fun k hk => ?_⟩, hc.nt h2⟩
    rcases hk with rfl | hk | rfl | ⟨c, hc', hk⟩
    · exact .inl (.inl rfl)
    · exact (h3 k hk).imp (fun h => .inr (.inl h)) id
    · exact .inl (.inr (.inr (.inl rfl)))
    · rcases List.mem_append.1 hc' with h | h
      · exact .inl (.inr (.inr (.inr ⟨c, h, hk⟩)))
      · obtain rfl : c = _ := by simpa using h
        simp [Value.ownBlock] at hk
theorem grow_uni (S : Nat → Prop) (l : List Pr) (en lv : Int) (tv : Value) (ts : List Twg) (p : Nat) (w : World) (hs : SS w p S l) (ht : Twgs w tv ts) (hn : ts.length ≤ 1000000) :
    Calls Try.prog 11 #[.pointer (some ⟨p, 0, none⟩), .agg #[.int .i64 en, .int .i64 lv, tv]] w fun e w' => ∃ T, e = .returned (.int .i64 (growA l en lv ts).1) ∧ SS w' p T (growA l en lv ts).2 ∧ Step S T w w' ∧ Upd (NT S w) w w' := by
  obtain ⟨v, m, cs, hc, rfl, rfl⟩ := hs
  rcases List.eq_nil_or_concat cs with rfl | ⟨cs', c, rfl⟩
  · obtain ⟨A, k, rfl, _⟩ := ht.form
    refine (sGrow_none p m v en lv A _ k w hc).mono ?_
    rintro e w' ⟨rfl, hb⟩
    exact ⟨SFoot p v m [], rfl, ⟨v, m, [], hc.ext hb, rfl, rfl⟩, Step.ext hb, Upd.of_ext hb⟩
  · rw [List.concat_eq_append] at hc ⊢
    have hg : growA (prs (cs' ++ [c])) en lv ts = if furtherB c.p en lv then (0, prs cs' ++ [{ c.p with has := true, end_ := en, level := lv, tree := ts }]) else (2, prs (cs' ++ [c])) := by
      unfold growA
      rw [prs_snoc]
      simp
    refine (sGrow_some p m v cs' c en lv tv ts w hc ht hn (fun r w' => r = (growA (prs (cs' ++ [c])) en lv ts).1 ∧ ∃ T, SS w' p T (growA (prs (cs' ++ [c])) en lv ts).2 ∧ Step (SFoot p v m (cs' ++ [c])) T w w' ∧ Upd (NT (SFoot p v m (cs' ++ [c])) w) w w') (fun hf w' hb => ?_) (fun hf w' u h1 h2 h3 => ?_)).mono ?_
    · rw [hg, hf]
      exact ⟨rfl, SFoot p v m (cs' ++ [c]), ⟨v, m, _, hc.ext hb, rfl, rfl⟩, Step.ext hb, Upd.of_ext hb⟩
    · rw [hg, hf]
      refine ⟨rfl, SFoot p v m (cs' ++ [⟨{ c.p with has := true, end_ := en, level := lv, tree := ts }, u⟩]), ⟨v, m, _, h1, by rw [prs_snoc]; rfl, rfl⟩, ⟨h2.mono (fun k _ hk => hk.foot), fun k hk => ?_⟩, hc.nt h2⟩
      rcases hk with rfl | hk | rfl | ⟨d, hd, hk⟩
      · exact .inl (.inl rfl)
      · exact .inl (.inr (.inl hk))
      · exact .inl (.inr (.inr (.inl rfl)))
      · rcases List.mem_append.1 hd with h | h
        · exact .inl (.inr (.inr (.inr ⟨d, List.mem_append_left _ h, hk⟩)))
        · obtain rfl : d = _ := by simpa using h
          exact .inr (h3 k hk)
    · rintro e w' ⟨r, rfl, rfl, T, h1, h2, h3⟩
      exact ⟨T, rfl, h1, h2, h3⟩
theorem end_uni (S : Nat → Prop) (l : List Pr) (p : Nat) (w : World) (hs : SS w p S l) :
    Calls Try.prog 13 #[.pointer (some ⟨p, 0, none⟩)] w fun e w' => ∃ T, e = .returned (.int .i64 (endA l).1) ∧ SS w' p T (endA l).2 ∧ Step S T w w' ∧ Upd (NT S w) w w' := by
  obtain ⟨v, m, cs, hc, rfl, rfl⟩ := hs
  rcases List.eq_nil_or_concat cs with rfl | ⟨cs', c, rfl⟩
  · refine (sEnd_none p m v w hc).mono ?_
    rintro e w' ⟨rfl, hb⟩
    exact ⟨SFoot p v m [], rfl, ⟨v, m, [], hc.ext hb, rfl, rfl⟩, Step.ext hb, Upd.of_ext hb⟩
  · rw [List.concat_eq_append] at hc ⊢
    have hg : endA (prs (cs' ++ [c])) = (0, prs cs') := by
      unfold endA
      rw [prs_snoc]
      simp
    rw [hg]
    refine (sEnd_some p m v cs' c w hc).mono ?_
    rintro e w' ⟨rfl, v', h1, h2, h3⟩
    refine ⟨SFoot p v' m cs', rfl, ⟨v', m, cs', h1, rfl, rfl⟩, ⟨h2.mono (fun k _ hk => hk.foot), fun k hk => ?_⟩, hc.nt h2⟩
    rcases hk with rfl | hk | rfl | ⟨d, hd, hk⟩
    · exact .inl (.inl rfl)
    · exact .inl (.inr (.inl (by rw [← h3]; exact hk)))
    · exact .inl (.inr (.inr (.inl rfl)))
    · exact .inl (.inr (.inr (.inr ⟨d, List.mem_append_left _ hd, hk⟩)))
theorem read_uni (S : Nat → Prop) (l : List Pr) (r pl lv : Int) (p : Nat) (w : World) (hs : SS w p S l) (hn : ∀ x ∈ l, x.tree.length ≤ 1000000) :
    Calls Try.prog 19 #[.pointer (some ⟨p, 0, none⟩), .int .i64 r, .int .i64 pl, .int .i64 lv] w fun e w' => ∃ A c, e = .returned (.tuple #[.agg #[.int .i64 (readA l r pl lv).1.end_, .int .i64 (readA l r pl lv).1.level, .slice A (readA l r pl lv).1.tree.length c], .int .i64 (readA l r pl lv).2]) ∧
      RowT w' (.slice A (readA l r pl lv).1.tree.length c) (readA l r pl lv).1.tree ∧ (∀ k, (Value.slice A (readA l r pl lv).1.tree.length c).ownBlock = some k → w.heap.size ≤ k) ∧ Below w.heap.size w w' := by
  obtain ⟨v, m, cs, hc, rfl, rfl⟩ := hs
  unfold readA
  cases hf : (prs cs).find? (isP r pl) with
  | none =>
    refine (sread_absent p m v cs r pl lv w hc hf).mono ?_
    rintro e w' ⟨rfl, hb⟩
    exact ⟨none, 0, rfl, RowT.nil _, by simp [Value.ownBlock], hb⟩
  | some x =>
    dsimp only
    cases hg : givesB x lv with
    | false =>
      refine (sread_fails p m v cs x r pl lv w hc hf hg).mono ?_
      rintro e w' ⟨rfl, hb⟩
      exact ⟨none, 0, rfl, RowT.nil _, by simp [Value.ownBlock], hb⟩
    | true =>
      refine (sread_gives p m v cs x r pl lv w hc hf hg (hn x (List.mem_of_find?_eq_some hf))).mono ?_
      rintro e w' ⟨A, c, rfl, h1, h2, h3⟩
      exact ⟨A, c, rfl, h1, h2, h3⟩
def lastA (l : List Pr) : Int × Int × Bool := match l.getLast? with | none => (0, 0, false) | some x => (x.rule, x.place, true)
theorem last_uni (S : Nat → Prop) (l : List Pr) (p : Nat) (w : World) (hs : SS w p S l) :
    Calls Try.prog 35 #[.pointer (some ⟨p, 0, none⟩)] w fun e w' => e = .returned (.tuple #[.int .i64 (lastA l).1, .int .i64 (lastA l).2.1, .bool (lastA l).2.2]) ∧ Below w.heap.size w w' := by
  obtain ⟨v, m, cs, hc, rfl, rfl⟩ := hs
  rcases List.eq_nil_or_concat cs with rfl | ⟨cs', c, rfl⟩
  · exact sLast_none p m v w hc
  · rw [List.concat_eq_append] at hc ⊢
    have hg : lastA (prs (cs' ++ [c])) = (c.p.rule, c.p.place, true) := by
      unfold lastA
      rw [prs_snoc]
      simp
    rw [hg]
    exact sLast_some p m v cs' c w hc
theorem live_uni (S : Nat → Prop) (l : List Pr) (pl : Int) (p : Nat) (w : World) (hs : SS w p S l) (hn : l.length ≤ 1000000) :
    Calls Try.prog 33 #[.pointer (some ⟨p, 0, none⟩), .int .i64 pl] w fun e w' => ∃ u, e = .returned u ∧ w'.ownsRow 0 3 1 u (liveL l pl).length ((sortL (liveL l pl)).map (Value.int .i64)) ∧ Below w.heap.size w w' := by
  obtain ⟨v, m, cs, hc, rfl, rfl⟩ := hs
  exact slive_any p m v cs pl w hc (by rw [prs_length] at hn; exact hn)
theorem len_uni (S : Nat → Prop) (l : List Pr) (p : Nat) (w : World) (hs : SS w p S l) :
    Calls Try.prog 31 #[.pointer (some ⟨p, 0, none⟩)] w fun e w' => e = .returned (.int .i64 l.length) ∧ w = w' := by
  obtain ⟨v, m, cs, hc, rfl, rfl⟩ := hs
  rw [prs_length]
  exact slen_any p m v cs w hc
/-- the copy leads to the same pairs; their trees are shared -/
theorem copy_uni (S : Nat → Prop) (l : List Pr) (p : Nat) (w : World) (hs : SS w p S l) (hn : l.length ≤ 1000000) :
    Calls Try.prog 15 #[.pointer (some ⟨p, 0, none⟩)] w fun e w' => ∃ q T, e = .returned (.pointer (some ⟨q, 0, none⟩)) ∧ SS w' q T l ∧ Below w.heap.size w w' ∧ ∀ k, T k → w.heap.size ≤ k ∨ (S k ∧ ∃ cur, Blk w k 61 cur) := by
  obtain ⟨v, m, cs, hc, rfl, rfl⟩ := hs
  rw [prs_length] at hn
  refine (scopy_any p m v cs w hc hn).mono ?_
  rintro e w' ⟨q, u, o, rfl, h1, h2, h3, h4, h5⟩
  refine ⟨q, SFoot q u o cs, rfl, ⟨u, o, cs, h1, rfl, rfl⟩, h5, fun k hk => ?_⟩
  rcases hk with rfl | hk | rfl | hk
  · exact .inl h2
  · exact .inl (h4 k hk)
  · exact .inl h3
  · obtain ⟨c, hc', hk⟩ := hk
    exact .inr ⟨.inr (.inr (.inr ⟨c, hc', hk⟩)), own_blk (hc.trees c hc') hk⟩
theorem new_uni (w : World) :
    Calls Try.prog 6 #[] w fun e w' => ∃ p T, e = .returned (.pointer (some ⟨p, 0, none⟩)) ∧ SS w' p T [] ∧ (∀ b, T b → w.heap.size ≤ b) ∧ Below w.heap.size w w' := by
  refine (snew_any w).mono ?_
  rintro e w' ⟨p, m, rfl, h1, h2, h3, h4⟩
  refine ⟨p, SFoot p (.slice none 0 0) m [], rfl, ⟨_, m, [], h1, rfl, rfl⟩, ?_, h4⟩
  rintro b (rfl | h | rfl | ⟨c, hc, _⟩)
  · exact h2
  · simp [Value.ownBlock] at h
  · exact h3
  · simp at hc
end Go.Proofs.Ytchmlhceidociaa
