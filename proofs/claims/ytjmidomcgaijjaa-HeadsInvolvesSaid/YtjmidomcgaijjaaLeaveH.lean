/- What was done: the step of leaving. -/
import Derived.Test.YtjmidomcgaijjaaStep
namespace Go.Proofs.Ytjmidomcgaijjaa
set_option linter.unusedVariables false
open Go.RowKit

theorem ownsRow_cut {w : World} {base sz n m c : Nat} {t : TypeId} {g : Nat} {xs : List Value} (h : w.ownsRow base t sz (.slice (some ⟨g, 0, none⟩) n c) n xs) (hm : m ≤ n) : w.ownsRow base t sz (.slice (some ⟨g, 0, none⟩) m c) m (xs.take (m * sz)) := by
  have hms : m * sz ≤ n * sz := Nat.mul_le_mul_right _ hm
  refine ⟨by rw [List.length_take, h.1]; omega, ?_⟩
  rcases h.2 with ⟨e, _⟩ | ⟨g', cap, cur, e, hb, hg, h1, h2, h3, h4⟩
  · cases e
  · injection e with e1 e2 e3
    injection e1 with e1
    injection e1 with e1
    subst e1 e3
    refine .inr ⟨g, c, cur, rfl, hb, hg, by omega, h2, h3, ?_⟩
    rw [← h4, List.take_take, Nat.min_eq_left hms]
theorem flat_take (sz : Nat) : ∀ (rows : List (List Int)) (hr : ∀ r ∈ rows, r.length = sz) (m : Nat), (rows.flatMap fun r => r.map (Value.int .i64)).take (m * sz) = (rows.take m).flatMap fun r => r.map (Value.int .i64)
  | [], _, m => by simp
  | r :: rows, hr, 0 => by simp
  | r :: rows, hr, m + 1 => by
    have h1 := hr r (by simp)
    have e : (m + 1) * sz = (r.map (Value.int .i64)).length + m * sz := by rw [Nat.add_mul, Nat.one_mul, Nat.add_comm]; simp [h1]
    rw [List.flatMap_cons, List.take_succ_cons, List.flatMap_cons, e, List.take_append, List.take_of_length_le (by omega), Nat.add_sub_cancel_left, flat_take sz rows (fun x hx => hr x (by simp [hx])) m]

/-- the one on top is taken away -/
theorem HisC.cut_l {w : World} {q p g c n : Nat} {vr vt : Value} {H : Hist} (h : HisC w q p (.slice (some ⟨g, 0, none⟩) n c) vr vt H) (hn : H.l.length = n) (m : Nat) (hm : m ≤ n) :
    HisC (w.setCell ⟨q, 1, none⟩ (.slice (some ⟨g, 0, none⟩) m c)) q p (.slice (some ⟨g, 0, none⟩) m c) vr vt { H with l := H.l.take m } ∧ Upd (· = q) w (w.setCell ⟨q, 1, none⟩ (.slice (some ⟨g, 0, none⟩) m c)) := by
  have hs := setCell_upd w q 1 (.slice (some ⟨g, 0, none⟩) m c)
  have hne : ∀ {t : TypeId} {sz k : Nat} {v : Value} {rows : List (List Int)}, Tab w t sz v rows → t ≠ 31 → v.ownBlock = some k → ¬ k = q := fun ht hk hv e => by
    obtain ⟨cs, hb⟩ := own_blk ht.1 hv
    subst e
    exact Blk.ne_ hb h.blk hk rfl
  refine ⟨⟨by simpa using h.blk.set_ 1 (.slice (some ⟨g, 0, none⟩) m c), ?_, ?_, ?_⟩, hs⟩
  · have h0 := h.l.1
    rw [List.length_map, hn] at h0
    have h1 := ownsRow_cut h0 hm
    rw [flat_take 3 _ h.l.2, ← List.map_take] at h1
    have h2 : (H.l.take m).length = m := by rw [List.length_take]; omega
    refine ⟨?_, fun r hr => by obtain ⟨s, _, rfl⟩ := List.mem_map.1 hr; rfl⟩
    show World.ownsRow _ _ _ _ _ ((H.l.take m).map St.row).length _
    rw [List.length_map, h2]
    exact ownsRow_keep h1 hs (fun k hk => hne h.l (by decide) hk)
  · exact h.reads.keep hs (fun k hk => hne h.reads (by decide) hk)
  · exact h.touches.keep hs (fun k hk => hne h.touches (by decide) hk)

set_option maxRecDepth 100000 in
set_option maxHeartbeats 1600000 in
theorem hleave_none (q p : Nat) (S : Nat → Prop) (vl vr vt : Value) (H : Hist) (w : World) (h : HisC w q p vl vr vt H) (hs : HS w p S []) (hn : H.l.length = 0) :
    Calls Try.prog 15 #[.pointer (some ⟨q, 0, none⟩)] w fun e w' => e = .returned (.bool true) ∧ HisC w' q p vl vr vt H ∧ HS w' p S [] ∧ Step S S w w' := by
  have HE := Lib.hid (leave_uni0 S p w hs)
  have HK := Lib.hid (And.intro h hs)
  have h0 := h.c0
  have hq := h.blk.lt
  have hv : ∃ A c, vl = .slice A 0 c := by
    obtain ⟨A, c, e, _⟩ := h.lform
    rw [hn] at e
    exact ⟨A, c, e⟩
  obtain ⟨A, c, rfl⟩ := hv
  clear h hs
  go_enter Try.func15, Try.ntmps15
  go_wp2_with (first
    | (go_at_call 27; refine HE.out.mono ?_; rintro e w1 ⟨rfl, hs1, st1⟩; have hc1 := HK.out.1.keep st1.upd (fun k hk => HK.out.1.apart HK.out.2 hk); have k1 := hc1.c1; have kl := hc1.blk.lt; have hA := Lib.hid (And.intro hc1 (And.intro hs1 st1)); clear hs1 st1 hc1))
  go_ret
  have hb := (ext_refl w1).alloc (Nat.le_refl _) (.cells #[.int .i64 0, .int .i64 0, .slice none 0 0, .bool false] 65)
  exact ⟨rfl, hA.out.1.ext hb, hA.out.2.1.ext hb, hA.out.2.2.trans (Step.ext hb)⟩

theorem rising_lt {l : List Int} (h : Rising l) {i j : Nat} (hij : i < j) (hj : j < l.length) : l[i]'(by omega) < l[j] := List.pairwise_iff_getElem.1 h i j (by omega) hj hij

set_option maxRecDepth 100000 in
set_option maxHeartbeats 3200000 in
theorem hleave_some (q p : Nat) (S : Nat → Prop) (vl vr vt : Value) (H : Hist) (hl : List St) (st : St) (l : List Fr) (f : Fr) (w : World) (h : HisC w q p vl vr vt H) (hs : HS w p S (l ++ [f]))
    (hH : H.l = hl ++ [st]) (hn : hl.length ≤ 1000) (h1 : f.rule = st.rule) (h2 : f.place = st.place) (h3 : f.tainted = hangsOf H hl.length st.since) (hR : Rising f.touched) (hi : ∀ x ∈ f.touched, i64 x) (hln : f.touched.length ≤ 100000)
    (h4 : ∀ x ∈ f.touched, touchedOf H st.since st.place x = true) (h5 : ∀ t ∈ H.touches, touchedOf H st.since st.place t.rule = true → t.rule ∈ f.touched) (hnt : H.touches.length ≤ 1000) :
    Calls Try.prog 15 #[.pointer (some ⟨q, 0, none⟩)] w fun e w' => ∃ T vl', e = .returned (.bool true) ∧ HisC w' q p vl' vr vt { H with l := hl } ∧ HS w' p T l ∧ Step (fun k => S k ∨ HFoot q vl vr vt k) (fun k => T k ∨ HFoot q vl' vr vt k) w w' := by
  have hlen : H.l.length = hl.length + 1 := by rw [hH]; simp
  have hget : H.l[hl.length]'(by omega) = st := by simp [hH]
  have HE := Lib.hid (leave_uni S l f p w hs hi (by omega))
  have HK := Lib.hid (And.intro h hs)
  have h0 := h.c0
  have hq := h.blk.lt
  obtain ⟨Al, cl, rfl, hcl, hml, _, hcells⟩ := h.lform
  obtain ⟨g, rfl, hg, hcell⟩ := hcells (by omega)
  obtain ⟨At, ct, rfl, hct, hmt, _, hcellt⟩ := h.tform
  clear hcell hcells hcellt
  have HG := Lib.hid (fun W (hc : HisC W q p (.slice (some ⟨g, 0, none⟩) H.l.length cl) vr (.slice At H.touches.length ct) H) => hget ▸ hangs_any q p _ _ _ H hl.length (by omega) W hc)
  have HT := Lib.hid (fun W (hc : HisC W q p (.slice (some ⟨g, 0, none⟩) H.l.length cl) vr (.slice At H.touches.length ct) H) x => hget ▸ touched_any q p _ _ _ H hl.length (by omega) x W hc)
  unfold maxLen at hml hmt
  have HH := Lib.hid hH
  have HL := Lib.hid hlen
  have H3 := Lib.hid (And.intro h3 (And.intro hR (And.intro h4 h5)))
  rw [hlen] at hcl HG HT HK ⊢
  rw [← h3] at HG
  have HF := Lib.hid (And.intro h1 h2)
  rw [h1, h2] at HE
  clear h hs hH h3 hR h4 h5 h1 h2 hget hi
  go_enter Try.func15, Try.ntmps15
  go_wp2_with (first
    | (go_at_call 27; refine HE.out.mono ?_; rintro e w1 ⟨T, u, rfl, ho, ⟨Ax, cx, rfl⟩, hs1, st1⟩; have hc1 := HK.out.1.keep st1.upd (fun k hk => HK.out.1.apart HK.out.2 hk); have k1 := hc1.c1; have kl := hc1.blk.lt; have hA := Lib.hid (And.intro hc1 (And.intro hs1 (And.intro st1 ho))); clear hs1 st1 hc1 ho))
  have hb := (ext_refl w1).alloc (Nat.le_refl _) (.cells #[.int .i64 st.rule, .int .i64 st.place, .slice Ax f.touched.length cx, .bool f.tainted] 65)
  have hX : Cel T (w1.alloc (.cells #[.int .i64 st.rule, .int .i64 st.place, .slice Ax f.touched.length cx, .bool f.tainted] 65)) w1.heap.size _ _ := Cel.new _ _ hA.out.2.1.slt
  have hB := Lib.hid (And.intro (hA.out.1.ext hb) (And.intro (hA.out.2.1.ext hb) (And.intro (hA.out.2.2.1.trans (Step.ext hb)) (And.intro (hA.out.2.2.2.step (Step.ext hb)) hX))))
  generalize hw2 : w1.alloc (.cells #[.int .i64 st.rule, .int .i64 st.place, .slice Ax f.touched.length cx, .bool f.tainted] 65) = w2 at *
  have b0 : w2.cell? ⟨w1.heap.size, 0, none⟩ = some (.int .i64 st.rule) := hX.1.cell 0
  have b1 : w2.cell? ⟨w1.heap.size, 1, none⟩ = some (.int .i64 st.place) := hX.1.cell 1
  have b2 : w2.cell? ⟨w1.heap.size, 2, none⟩ = some (.slice Ax f.touched.length cx) := hX.1.cell 2
  have b3 : w2.cell? ⟨w1.heap.size, 3, none⟩ = some (.bool f.tainted) := hX.1.cell 3
  have bl : w1.heap.size < w2.heap.size := hX.1.lt
  have hc2 := hB.out.1
  have q1 := hc2.c1
  have q3 := hc2.c3
  have ql := hc2.blk.lt
  have qf := hc2.blk.frozen 1
  obtain ⟨Al, cl', e, _, _, _, hcells⟩ := hc2.lform
  obtain ⟨g', e', _, hcell⟩ := hcells (by omega)
  subst e'
  injection e with e e5 e6
  injection e with e
  injection e with e e7 e8
  clear e5 e6 e7 e8
  subst e
  obtain ⟨g0, g1, _⟩ := hcell hl.length (by omega)
  have hget : H.l[hl.length]'(by omega) = st := by have := HH.out; simp [this]
  rw [hget] at g0 g1
  have hli : (hl.length : Int) < ((hl.length + 1 : Nat) : Int) := by omega
  have HB1 := Lib.hid hb
  clear hb hX hw2 hc2 hcells hcell hget k1 kl hA
  have HG' := Lib.hid (fun n => HG.out (w2.drewN n) (hB.out.1.ext (drew_ext ⟨n, rfl⟩)))
  have HT' := Lib.hid (fun W m (h : W = w2.drewN m) n x => HT.out (W.drewN n) ((hB.out.1.ext (drew_ext ⟨m, h⟩)).ext (drew_ext ⟨n, rfl⟩)) x)
  clear HG HT
  generalize hbb : w1.heap.size = b at *
  have e1 : (st.rule != st.rule) = false := by simp
  have e2 : (st.place != st.place) = false := by simp
  have e3 : (f.tainted != f.tainted) = false := by simp
  go_quiet ((go_at_call 14; exact Calls.quiet_of (HG'.out _)))
  go_wp2
  clear b0 b1 b3 g0 g1 e1 e2 e3 HG' HE h0 hq HK
  have B2 := Lib.hid b2
  go_loopw [6] (fun i wr => ∃ k : Nat, k ≤ f.touched.length ∧ i = .int .i64 k ∧ ∃ m, wr = w2.drewN m) (fun i _ => f.touched.length - (intOf i).toNat)
  case atStart => exact ⟨0, Nat.zero_le _, rfl, _, rfl⟩
  case round =>
    obtain ⟨k, hk, rfl, m, hm⟩ := hrel
    have HM := Lib.hid hm
    by_cases hlt : k < f.touched.length
    · obtain ⟨gx, rfl, hgx, hx1, hx2, hxc⟩ := hB.out.2.2.2.1.at (show 0 < f.touched.length by omega)
      have b2 : wr.cell? ⟨b, 2, none⟩ = some (.slice (some ⟨gx, 0, none⟩) f.touched.length cx) := by rw [hm]; exact b2
      have gk : wr.cell? ⟨gx, k, none⟩ = some (.int .i64 f.touched[k]) := by rw [hm]; exact hxc k hlt
      have HTx := Lib.hid (fun n => H3.out.2.2.1 _ (List.getElem_mem hlt) ▸ HT'.out wr m hm n f.touched[k])
      have hlk : (k : Int) < (f.touched.length : Int) := by omega
      unfold maxLen at hx2
      rcases k with _ | j
      · generalize f.touched[0] = x at *
        clear hxc hm
        go_wp2
        go_quiet ((go_at_call 42; exact Calls.quiet_of (HTx.out _)))
        go_wp2
        go_roundw
        case rel => exact ⟨1, by omega, by go_num, _, by rw [HM.out]; exact World.drewN_drewN _ _ _⟩
        case measure => simp [intOf]; omega
      · have gj : wr.cell? ⟨gx, j, none⟩ = some (.int .i64 (f.touched[j]'(by omega))) := by rw [hm]; exact hxc j (by omega)
        have hjk := rising_lt H3.out.2.1 (show j < j + 1 by omega) hlt
        have hdk : decide (f.touched[j + 1] ≤ f.touched[j]'(by omega)) = false := by simpa using hjk
        have hk0 : decide (0 < j + 1) = true := by simp
        have hk1 : (0 : Int) < ((j + 1 : Nat) : Int) := by omega
        have hlj : (j : Int) < (f.touched.length : Int) := by omega
        generalize f.touched[j + 1] = x at *
        generalize f.touched[j]'(by omega) = y at *
        clear hxc hjk hm
        go_wp2
        go_quiet ((go_at_call 42; exact Calls.quiet_of (HTx.out _)))
        go_wp2
        go_roundw
        case rel => exact ⟨j + 1 + 1, by omega, by go_num, _, by rw [HM.out]; exact World.drewN_drewN _ _ _⟩
        case measure => simp [intOf]; omega
    · have b2 : wr.cell? ⟨b, 2, none⟩ = some (.slice Ax f.touched.length cx) := by rw [hm]; exact b2
      clear hm
      go_wp2
      clear b2
      go_loopw [7] (fun i wr => ∃ k : Nat, k ≤ H.touches.length ∧ i = .int .i64 k ∧ ∃ m, wr = w2.drewN m) (fun i _ => H.touches.length - (intOf i).toNat)
      case atStart => exact ⟨0, Nat.zero_le _, rfl, _, HM.out⟩
      case round =>
        obtain ⟨k2, hk2, rfl, m2, hm2⟩ := hrel
        have HM2 := Lib.hid hm2
        have q3' : wr.cell? ⟨q, 3, none⟩ = some (.slice At H.touches.length ct) := by rw [hm2]; exact q3
        by_cases hlt2 : k2 < H.touches.length
        · obtain ⟨At', ct', e, _, _, _, hct'⟩ := hB.out.1.tform
          obtain ⟨gt, rfl, hgt, hcc⟩ := hct' (by omega)
          injection e with e e5 e6
          subst e
          clear e5 e6 hct'
          obtain ⟨_, t1, _⟩ := hcc k2 hlt2
          have t1' : wr.cell? ⟨gt, k2 * 3 + 1, none⟩ = some (.int .i64 H.touches[k2].rule) := by rw [hm2]; exact t1
          have b2' : wr.cell? ⟨b, 2, none⟩ = some (.slice Ax f.touched.length cx) := by rw [hm2]; exact B2.out
          have hlk2 : (k2 : Int) < (H.touches.length : Int) := by omega
          have H5 := Lib.hid (H3.out.2.2.2 _ (List.getElem_mem hlt2))
          have HTx := Lib.hid (fun n => HT'.out wr m2 hm2 n H.touches[k2].rule)
          have HAx := Lib.hid (fun n => has_any f.touched _ H.touches[k2].rule (wr.drewN n) (hB.out.2.2.2.1.ints.of_cells (fun p u hp => by rw [hm2]; exact hp)))
          clear hcc t1 hm2
          generalize H.touches[k2].rule = x at *
          cases ht : touchedOf H st.since st.place x with
          | false =>
            have HTy := Lib.hid (fun n => ht ▸ HTx.out n)
            go_wp2
            go_quiet ((go_at_call 42; exact Calls.quiet_of (HTy.out _)))
            go_wp2
            go_roundw
            case rel => exact ⟨k2 + 1, by omega, by go_num, _, by rw [HM2.out]; exact World.drewN_drewN _ _ _⟩
            case measure => simp [intOf]; omega
          | true =>
            have HTy := Lib.hid (fun n => ht ▸ HTx.out n)
            have hco : f.touched.contains x = true := by simpa using H5.out ht
            have HAy := Lib.hid (fun n => calls_flip (hco ▸ HAx.out n))
            go_wp2
            go_quiet (first
              | (go_at_call 42; exact Calls.quiet_of (HTy.out _))
              | (go_at_call 12; exact Calls.quiet_of_same (HAy.out _)))
            go_wp2
            go_roundw
            case rel => exact ⟨k2 + 1, by omega, by go_num, _, by rw [HM2.out]; exact World.drewN_drewN _ _ _⟩
            case measure => simp [intOf]; omega
        · have q1' : wr.cell? ⟨q, 1, none⟩ = some (.slice (some ⟨g, 0, none⟩) (hl.length + 1) cl) := by rw [hm2]; exact q1
          have qf' : wr.frozen? ⟨q, 1, none⟩ = false := by rw [hm2]; exact qf
          have ql' : q < wr.heap.size := by rw [hm2]; exact ql
          have hc3 := hB.out.1.ext (drew_ext ⟨m2, hm2⟩)
          have hs3 := hB.out.2.1.ext (drew_ext ⟨m2, hm2⟩)
          have HX := Lib.hid (And.intro hc3 (And.intro hs3 (drew_ext ⟨m2, hm2⟩)))
          clear hm2 hc3 hs3
          have hlc : hl.length ≤ cl := by omega
          go_wp2
          go_ret
          obtain ⟨hc3, hs3, hd3⟩ := HX.out
          obtain ⟨r1, r2⟩ := hc3.cut_l HL.out hl.length (by omega)
          have ht : H.l.take hl.length = hl := by rw [HH.out]; simp
          rw [ht] at r1
          refine ⟨T, _, rfl, r1, hs3.keep r2 (fun k hk e => ?_), ?_⟩
          · subst e
            exact hc3.apart hs3 (.inl rfl) hk
          · have h1 := hB.out.2.2.1.trans (Step.ext hd3)
            refine ⟨(h1.upd.mono (fun k _ hk => .inl hk)).trans' r2 (fun k _ e => .inr (.inl e)), fun k hk => ?_⟩
            rcases hk with hk | hk
            · exact (h1.sub k hk).imp .inl id
            · refine .inl (.inr ?_)
              rcases hk with hk | hk | hk
              · exact .inl hk
              · exact .inr (.inl hk)
              · exact .inr (.inr hk)
end Go.Proofs.Ytjmidomcgaijjaa
