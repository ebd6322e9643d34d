/- HeadsDoes: the walk. -/
import Derived.Test.YtjmidomcgaijjaaSame
import Derived.Test.YtjmidomcgaijjaaIn
import Derived.Deep.Cut

namespace Go.Proofs.Ytjmidomcgaijjaa
set_option linter.unusedVariables false
set_option linter.unusedSimpArgs false
open Go.RowKit

/-- leaving, and the row told is new -/
theorem leave_new (S : Nat → Prop) (l : List Fr) (f : Fr) (p : Nat) (w : World) (hs : HS w p S (l ++ [f])) (hi : ∀ x ∈ f.touched, i64 x) (hn : f.touched.length ≤ 1000000) :
    Calls Try.prog 27 #[.pointer (some ⟨p, 0, none⟩)] w fun e w' => ∃ T A c, e = .returned (.tuple #[.agg #[.int .i64 f.rule, .int .i64 f.place, .slice A f.touched.length c, .bool f.tainted], .int .i64 0]) ∧
      w'.ownsRow w.heap.size 3 1 (.slice A f.touched.length c) f.touched.length (f.touched.map (Value.int .i64)) ∧ HS w' p T l ∧ Step S T w w' := by
  obtain ⟨v, cs, hc, hl, rfl⟩ := hs
  obtain ⟨cs', c, rfl⟩ : ∃ cs' c, cs = cs' ++ [c] := by
    rcases List.eq_nil_or_concat cs with rfl | ⟨a, b, e⟩
    · simp [frs] at hl
    · exact ⟨a, b, by rw [e, List.concat_eq_append]⟩
  have hl' : frs cs' = l ∧ c.f = f := by
    unfold frs at hl ⊢
    rw [List.map_append] at hl
    have := List.append_inj' hl rfl
    exact ⟨this.1, by simpa using this.2⟩
  obtain ⟨rfl, rfl⟩ := hl'
  refine (leave_ok cs' c v p w hc hi hn).mono ?_
  rintro e w' ⟨u, v', rfl, h1, h2, h3, h4⟩
  obtain ⟨A, cc, rfl⟩ := ownsRow_form h1
  refine ⟨Foot p v' cs', A, cc, rfl, h1, ⟨v', cs', h2, rfl, rfl⟩, h3.mono (fun k _ hk => ?_), fun k hk => .inl (h4 k hk)⟩
  subst hk
  exact .inl rfl

set_option maxRecDepth 100000 in
set_option maxHeartbeats 3200000 in
theorem does_any (v : Value) (ds : List Dd) (w : World) (h : Deeds w v ds) :
    Calls Try.prog 6 #[v] w fun e w' => e = .returned (.bool true) ∧ Below w.heap.size w w' := by
  have HA := Lib.hid (fun W => awake_any W)
  have HSZ := Lib.hid (size_any v ds w h)
  obtain ⟨A, c, rfl, hc, hm, hl, hd, hcells⟩ := h
  unfold maxLen at hm
  have HD := Lib.hid hd
  clear hd
  by_cases hbig : 200 < sizeOf ds
  · go_enter Try.func6, Try.ntmps6
    go_wp2_with (first
      | (go_at_call 18; refine HSZ.out.mono ?_; rintro e w1 ⟨n, rfl, hn1, hn2, rfl⟩
         have hnb : (200 : Int) < (n : Int) := by
           rcases Nat.lt_or_ge 200 n with h | h
           · omega
           · have := hn1 h; omega
         have hN := Lib.hid hn1
         clear hn1 hn2 hcells)
      | (go_at_call 8; refine (HA.out _).mono ?_; rintro e w1 ⟨rfl, hb1⟩))
    go_ret
    exact ⟨rfl, hb1⟩
  have hsz : sizeOf ds ≤ 200 := by omega
  have hdl : ds.length ≤ 200 := by unfold sizeOf at hsz; omega
  clear hbig
  go_enter Try.func6, Try.ntmps6
  go_wp2_with (first
    | (go_at_call 18; refine HSZ.out.mono ?_; rintro e w1 ⟨n0, rfl, hn1, hn2, rfl⟩
       have hnb : ¬ ((200 : Int) < (n0 : Int)) := by omega
       have hN := Lib.hid hn1
       clear hn1 hn2)
    | (go_at_call 9; refine (new_uni _).mono ?_; rintro e w2 ⟨p0, T1, rfl, hs2, ht2, hb2⟩))
  have hq : RS (w2.alloc (.cells #[.slice none 0 0] 53)) w2.heap.size (RFoot w2.heap.size (.slice none 0 0) []) [] := ⟨_, [], ⟨Blk.new _ _ _, World.ownsRow_nil _ _ _ _, by simp⟩, rfl, rfl⟩
  have hb3 := (ext_refl w2).alloc (Nat.le_refl _) (.cells #[.slice none 0 0] 53)
  have hst : ∃ U, Tw (w2.alloc (.cells #[.slice none 0 0] 53)) p0 w2.heap.size U [] ∧ Car w U (w2.alloc (.cells #[.slice none 0 0] 53)) := by
    have hR : ∀ k, RFoot w2.heap.size (.slice none 0 0) [] k → k = w2.heap.size := by
      rintro k (hk | hk | ⟨c, hc, _⟩)
      · exact hk
      · simp [Value.ownBlock] at hk
      · simp at hc
    refine ⟨_, ⟨T1, _, hs2.ext hb3, hq, fun k hk hk' => ?_, rfl⟩, ext_trans hb2 hb3, fun k hk => ?_⟩
    · have := hs2.slt k hk
      have := hR k hk'
      omega
    · rcases hk with hk | hk
      · exact ht2 k hk
      · have := hR k hk
        have := hb2.size
        omega
  obtain ⟨U0, htw0, hcar0⟩ := hst
  generalize hw3 : w2.alloc (.cells #[.slice none 0 0] 53) = w3 at *
  generalize hq0 : w2.heap.size = q at *
  have H3 := Lib.hid (And.intro htw0 hcar0)
  clear hs2 ht2 hb2 hq hb3 hw3 hq0 htw0 hcar0
  go_loopw [3, 5] (fun sv i wr => ∃ (k p n : Nat) (l : List Fr) (U : Nat → Prop), k ≤ ds.length ∧ sv = .pointer (some ⟨p, 0, none⟩) ∧ i = .int .i64 k ∧ Tw wr p q U l ∧ Bd n l ∧ n ≤ k + ((ds.take k).map fun d => d.touched.length).sum ∧ Car w U wr) (fun sv i _ => ds.length - (intOf i).toNat)
  case atStart => exact ⟨0, p0, 0, [], U0, Nat.zero_le _, rfl, rfl, H3.out.1, Bd.nil _, by simp, H3.out.2⟩
  case round =>
    obtain ⟨k, p, n, l, U, hk, rfl, rfl, htw, hbd, hnk, hcar⟩ := hrel
    by_cases hlt : k < ds.length
    · obtain ⟨b, o, rfl, hbl, hcell⟩ := hcells (by omega)
      obtain ⟨tv, g0, g1, g2, g3, hti⟩ := hcell k hlt
      have hdk := HD.out _ (List.getElem_mem hlt)
      have htl : ds[k].touched.length ≤ 200 := by
        have h1 := sum_take ds k hlt
        have h2 := sizeOf_take ds (k + 1) (by omega)
        omega
      have hbud : k + 1 + ((ds.take (k + 1)).map fun d => d.touched.length).sum ≤ 200 := Nat.le_trans (sizeOf_take ds (k + 1) (by omega)) hsz
      have hsk := sum_take ds k hlt
      rw [hsk] at hbud
      obtain ⟨At, ct, rfl, hct, hmt, -⟩ := hti.form
      unfold maxLen at hmt
      have k0 : wr.cell? ⟨b, o + k * 4, none⟩ = some (.int .i64 ds[k].what) := (hcar.1.cell (p := ⟨b, o + k * 4, none⟩) hbl).trans g0
      have k1 : wr.cell? ⟨b, o + k * 4 + 1, none⟩ = some (.int .i64 ds[k].rule) := (hcar.1.cell (p := ⟨b, o + k * 4 + 1, none⟩) hbl).trans g1
      have k2 : wr.cell? ⟨b, o + k * 4 + 2, none⟩ = some (.int .i64 ds[k].place) := (hcar.1.cell (p := ⟨b, o + k * 4 + 2, none⟩) hbl).trans g2
      have k3 : wr.cell? ⟨b, o + k * 4 + 3, none⟩ = some (.slice At ds[k].touched.length ct) := (hcar.1.cell (p := ⟨b, o + k * 4 + 3, none⟩) hbl).trans g3
      have HTI := Lib.hid (fun W (hW : Below w.heap.size w W) => show Ints W (.slice At ds[k].touched.length ct) ds[k].touched from hti.of_cells (fun a u ha => (hW.cell (World.block_lt_of_cell? w a ha)).trans ha))
      have hlk : (k : Int) < (ds.length : Int) := by omega
      have HSK := Lib.hid hsk
      obtain ⟨c, r, pl, hy, hcc, hir, hipl⟩ := turnD_spec hbd ⟨hdk.1, hdk.2.1⟩
      have HTU := Lib.hid (fun R (hr : RS wr q R l) => turned_any q R l ds[k] (.slice At ds[k].touched.length ct) wr hr (by have := hbd.len; omega) (fun f hf => (hbd.fr f hf).1.2) ⟨_, _, _, rfl⟩)
      clear hcell g0 g1 g2 g3 hti hsk hct hmt
      generalize hx : ds[k] = x at *
      clear hx
      have HTW := Lib.hid htw
      have HI := Lib.hid (And.intro hdk (And.intro hbd (And.intro hir hipl)))
      have HCAR := Lib.hid hcar
      have HBUD := Lib.hid (And.intro hnk (And.intro hbud htl))
      have hTU : Hid (Calls Try.prog 19 #[.pointer (some ⟨q, 0, none⟩), .agg #[.int .i64 x.what, .int .i64 x.rule, .int .i64 x.place, .slice At x.touched.length ct]] wr fun e w' =>
          e = .returned (.agg #[.int .i64 c, .int .i64 r, .int .i64 pl, .slice At x.touched.length ct]) ∧ Below wr.heap.size wr w') := by
        obtain ⟨S, R, _, hr, _, _⟩ := htw
        have := HTU.out R hr
        rw [hy] at this
        exact Lib.hid this
      clear htw hdk hbd hcar hnk hbud htl hy HTU hir hipl hcells
      rcases hcc with rfl | rfl | rfl | rfl | rfl
      · go_wp2_with (first
          | (go_at_call 19; refine hTU.out.mono ?_; rintro e w6 ⟨rfl, hb6⟩; have HB6 := Lib.hid hb6; clear hb6)
          | (go_at_call 20; refine (lentInts_any x.touched _ _ (HTI.out _ (HCAR.out.1.trans ((ext_trans HB6.out ((ext_refl w6).alloc (Nat.le_refl _) _)).mono HCAR.out.1.size))) (by have := HBUD.out.2.2; omega)).mono ?_; rintro e w7 ⟨u7, rfl, hlent, hb7⟩
             obtain ⟨rfl, hlb⟩ := hlent
             have hb67 := ext_trans (ext_trans HB6.out ((ext_refl w6).alloc (Nat.le_refl _) (.cells #[.int .i64 0, .int .i64 r, .int .i64 pl, .slice At x.touched.length ct] 55))) hb7
             have hdb := (Blk.new w6 55 #[.int .i64 0, .int .i64 r, .int .i64 pl, .slice At x.touched.length ct]).ext hb7
             have hwg : w6.heap.size ≤ (w6.alloc (.cells #[.int .i64 0, .int .i64 r, .int .i64 pl, .slice At x.touched.length ct] 55)).heap.size := by simp
             have H7 := Lib.hid (And.intro hb67 (And.intro hdb (And.intro hlb hwg)))
             have d0 := hdb.cell 0
             have d1 := hdb.cell 1
             have d2 := hdb.cell 2
             have d3 := hdb.cell 3
             have dl := hdb.lt
             generalize hgw : (w6.alloc (.cells #[.int .i64 0, .int .i64 r, .int .i64 pl, .slice At x.touched.length ct] 55)).heap.size = g at *
             clear hlb hdb hb67 hb7 hwg hgw k0 k1 k2 k3))
        obtain ⟨S, R, hs0, hr0, hdj, rfl⟩ := HTW.out
        have HS7 := Lib.hid (And.intro (hs0.ext H7.out.1) (And.intro (hr0.ext H7.out.1) hdj))
        have hU7 : ∀ k, (S k ∨ R k) → k < wr.heap.size := fun k hk => hk.elim (hs0.slt k) (hr0.slt k)
        have HNB := Lib.hid (show ¬ (S w6.heap.size ∨ R w6.heap.size) from fun h => by have := hU7 _ h; have := HB6.out.size; omega)
        have HNG := Lib.hid (show ¬ (S g ∨ R g) from fun h => by have := hU7 _ h; have := HB6.out.size; have := H7.out.2.2.2; omega)
        have HC7 := Lib.hid (HCAR.out.step (Step.ext H7.out.1))
        clear hs0 hr0 hdj hU7
        refine AtE.start (S := fun w' => w'.cell? ⟨w6.heap.size, 1, none⟩ = some (.int .i64 r) ∧ w'.cell? ⟨w6.heap.size, 2, none⟩ = some (.int .i64 pl) ∧ w'.cell? ⟨w6.heap.size, 3, none⟩ = some (.slice At x.touched.length ct)) 13 (by kernel_rfl) (by kernel_rfl) (by exact ⟨by simpa using d1, by simpa using d2, by simpa using d3⟩) (fun hHeld => ?_)
        refine AtE.take (i := 0) (v := ?_) rfl (by kernel_rfl) (by kernel_rfl) (by kernel_rfl) (fun _ _ _ h => h) (by decide) (Or.inl ⟨by rfl, ?_⟩) hHeld ?_
        rotate_left
        · intro w hSw; go_simp; try (with_reducible rfl)
        simp only [Act.put, List.setIfInBounds_toArray, List.set_cons_zero, List.set_cons_succ]
        refine AtE.take (i := 1) (v := ?_) rfl (by kernel_rfl) (by kernel_rfl) (by kernel_rfl) (fun _ _ _ h => h) (by decide) (Or.inl ⟨by rfl, ?_⟩) hHeld ?_
        rotate_left
        · intro w hSw; go_simp; try (with_reducible rfl)
        simp only [Act.put, List.setIfInBounds_toArray, List.set_cons_zero, List.set_cons_succ]
        refine AtE.take (i := 2) (v := ?_) rfl (by kernel_rfl) (by kernel_rfl) (by kernel_rfl) (fun _ _ _ h => h) (by decide) (Or.inl ⟨by rfl, ?_⟩) hHeld ?_
        rotate_left
        · intro w hSw; go_simp; try (with_reducible rfl)
        simp only [Act.put, List.setIfInBounds_toArray, List.set_cons_zero, List.set_cons_succ]
        refine AtE.take (i := 3) (v := ?_) rfl (by kernel_rfl) (by kernel_rfl) (by kernel_rfl) (fun _ _ _ h => h) (by decide) (Or.inl ⟨by rfl, ?_⟩) hHeld ?_
        rotate_left
        · intro w hSw; go_simp; try (with_reducible rfl)
        simp only [Act.put, List.setIfInBounds_toArray, List.set_cons_zero, List.set_cons_succ]
        refine AtE.take (i := 4) (v := ?_) rfl (by kernel_rfl) (by kernel_rfl) (by kernel_rfl) (fun _ _ _ h => h) (by decide) (Or.inl ⟨by rfl, ?_⟩) hHeld ?_
        rotate_left
        · intro w hSw; go_simp; try (with_reducible rfl)
        simp only [Act.put, List.setIfInBounds_toArray, List.set_cons_zero, List.set_cons_succ]
        refine AtE.take (i := 6) (v := ?_) rfl (by kernel_rfl) (by kernel_rfl) (by kernel_rfl) (fun _ _ _ h => h) (by decide) (Or.inl ⟨by rfl, ?_⟩) hHeld ?_
        rotate_left
        · intro w hSw; go_simp; try (with_reducible rfl)
        simp only [Act.put, List.setIfInBounds_toArray, List.set_cons_zero, List.set_cons_succ]
        refine AtE.take (i := 7) (v := ?_) rfl (by kernel_rfl) (by kernel_rfl) (by kernel_rfl) (fun _ _ _ h => h) (by decide) (Or.inl ⟨by rfl, ?_⟩) hHeld ?_
        rotate_left
        · intro w hSw; go_simp; try (with_reducible rfl)
        simp only [Act.put, List.setIfInBounds_toArray, List.set_cons_zero, List.set_cons_succ]
        refine AtE.take (i := 8) (v := ?_) rfl (by kernel_rfl) (by kernel_rfl) (by kernel_rfl) (fun _ _ _ h => h) (by decide) (Or.inl ⟨by rfl, ?_⟩) hHeld ?_
        rotate_left
        · intro w hSw; go_simp; try (with_reducible rfl)
        simp only [Act.put, List.setIfInBounds_toArray, List.set_cons_zero, List.set_cons_succ]
        refine AtE.take (i := 9) (v := ?_) rfl (by kernel_rfl) (by kernel_rfl) (by kernel_rfl) (fun _ _ _ h => h) (by decide) (Or.inl ⟨by rfl, ?_⟩) hHeld ?_
        rotate_left
        · intro w hSw; go_simp; try (with_reducible rfl)
        simp only [Act.put, List.setIfInBounds_toArray, List.set_cons_zero, List.set_cons_succ]
        refine AtE.take (i := 10) (v := ?_) rfl (by kernel_rfl) (by kernel_rfl) (by kernel_rfl) (fun _ _ _ h => h) (by decide) (Or.inl ⟨by rfl, ?_⟩) hHeld ?_
        rotate_left
        · intro w hSw; go_simp; try (with_reducible rfl)
        simp only [Act.put, List.setIfInBounds_toArray, List.set_cons_zero, List.set_cons_succ]
        refine AtE.one (i := 5) rfl (by kernel_rfl) (fun K hK => ?_)
        go_simp
        refine (enter_uni S l r pl p w7.drew (HS7.out.1.ext (ext_refl w7).drew) (by have := HI.out.2.1.len; have := HBUD.out; omega)).mono ?_
        rintro e w8 ⟨T, rfl, hs8, st8⟩
        have st8' : Step S T w7 w8 := (Step.ext (ext_refl w7).drew).trans st8
        have hr8 := HS7.out.2.1.keep st8'.upd (fun j hj hj' => HS7.out.2.2 j hj' hj)
        have hd8 := H7.out.2.1.keep st8'.upd (fun h => HNB.out (.inl h))
        have H8 := Lib.hid (And.intro hs8 (And.intro st8' hr8))
        have e1 := hd8.cell 1
        have e2 := hd8.cell 2
        have e3 := hd8.cell 3
        refine hK.out _ _ (fun _ => ⟨e1, e2, e3⟩) (fun hHeld' => ?_)
        have hHeld := hHeld' (by decide)
        have HD8 := Lib.hid hd8
        clear hK K hHeld' hs8 st8 st8' hr8 hd8 e1 e2 e3
        refine AtE.one (i := 11) rfl (by kernel_rfl) (fun K hK => ?_)
        go_simp
        refine (enterR_uni r pl H8.out.2.2 HI.out.2.1 (by have := HBUD.out; omega)).mono ?_
        rintro e w9 ⟨R1, rfl, hr9, st9⟩
        obtain ⟨U9, htw9, st79⟩ := Tw.both HS7.out.1 HS7.out.2.1 HS7.out.2.2 H8.out.1 H8.out.2.1 hr9 st9
        have hd9 := H7.out.2.1.keep st79.upd HNB.out
        have e1 := hd9.cell 1
        have e2 := hd9.cell 2
        have e3 := hd9.cell 3
        refine hK.out _ _ (fun _ => ⟨e1, e2, e3⟩) (fun hHeld' => ?_)
        have hHeld := hHeld' (by decide)
        have HTX := Lib.hid htw9
        have HSX := Lib.hid st79
        clear hK K hHeld' hr9 st9 htw9 st79 hd9 e1 e2 e3
        refine AtE.take (i := 12) (v := ?_) rfl (by kernel_rfl) (by kernel_rfl) (by kernel_rfl) (fun _ _ _ h => h) (by decide) (Or.inl ⟨by rfl, ?_⟩) hHeld ?_
        rotate_left
        · intro w hSw; go_simp; try (with_reducible rfl)
        simp only [Act.put, List.setIfInBounds_toArray, List.set_cons_zero, List.set_cons_succ]
        refine AtE.one (i := 13) rfl (by kernel_rfl) (fun K hK => ?_)
        go_simp
        refine hK.out _ _ (fun h => absurd rfl h) (fun _ => ?_)
        clear hK K
        refine AtE.done (by kernel_rfl) ?_
        clear hHeld d0 d1 d2 d3 dl
        have HBX := Lib.hid (HI.out.2.1.enter HI.out.2.2.1 HI.out.2.2.2)
        generalize (enterA l r pl).2 = l2 at *
        have hdx := Cel.step (S := fun k => S k ∨ R k) ⟨H7.out.2.1, HNB.out⟩ HSX.out
        have hlx := Cel.step (S := fun k => S k ∨ R k) ⟨H7.out.2.2.1, HNG.out⟩ HSX.out
        have hcx := HC7.out.step HSX.out
        have z0 := hdx.1.cell 0
        have z1 := hdx.1.cell 1
        have z2 := hdx.1.cell 2
        have z3 := hdx.1.cell 3
        have zl := hdx.1.lt
        have HX := Lib.hid (And.intro hdx (And.intro hlx hcx))
        clear hdx hlx hcx
        go_wp2_with (first
          | (go_at_call 31; refine (keptInts_any x.touched _ _ g _ ⟨rfl, HX.out.2.1.1⟩ (HTI.out _ HX.out.2.2.1) (by have := HBUD.out.2.2; omega)).mono ?_; rintro e wk ⟨rfl, hdr⟩
             have hbk := drew_ext hdr
             have HBK := Lib.hid hbk
             clear hdr hbk)
          | (go_at_call 32; refine (overInts_any x.touched.length (x.touched.length + 12) g _ _ (HX.out.2.1.1.ext HBK.out) (by simp [marks]) (by omega) (by have := HBUD.out.2.2; unfold maxLen; omega) (by have := HBUD.out.2.2; omega)).mono ?_; rintro e wo ⟨rfl, huo, -⟩
             have hng : w6.heap.size ≠ g := fun e => by
               have h1 := H7.out.2.1
               have h2 := H7.out.2.2.1
               rw [e] at h1
               exact Blk.ne_ h1 h2 (by decide) rfl
             have hdo := (HX.out.1.1.ext HBK.out).keep huo hng
             have z0 := hdo.cell 0
             have z1 := hdo.cell 1
             have z2 := hdo.cell 2
             have z3 := hdo.cell 3
             have zl := hdo.lt
             have htwo := (HTX.out.ext HBK.out).keep huo (fun j hj e => by subst e; exact HX.out.2.1.2 hj)
             have hcg : w.heap.size ≤ g := Nat.le_trans (Nat.le_trans HCAR.out.1.size HB6.out.size) H7.out.2.2.2
             have hco := (HX.out.2.2.step (Step.ext HBK.out)).side huo (fun j e => by subst e; exact hcg)
             have HO := Lib.hid (And.intro htwo hco)
             clear huo hng hdo htwo hcg hco)
          | (go_at_call 33
             obtain ⟨S9, R9, hs9, hr9, _, _⟩ := HO.out.1
             refine (same_any p q (n + 1) S9 R9 l2 ⟨0, r, pl, x.touched⟩ (.slice At x.touched.length ct) wo hs9 hr9 HBX.out (by have := HBUD.out; omega) (HTI.out wo HO.out.2.1)).mono ?_; rintro e we ⟨rfl, hbe⟩
             have HBE := Lib.hid hbe
             clear hbe hs9 hr9))
        go_roundw
        case rel =>
          exact ⟨k + 1, _, _, _, _, by omega, rfl, by go_num, HO.out.1.ext HBE.out, HBX.out, by rw [HSK.out]; have := HBUD.out.1; omega, HO.out.2.step (Step.ext HBE.out)⟩
        case measure => simp [intOf]; omega
      · go_wp2_with (first
          | (go_at_call 19; refine hTU.out.mono ?_; rintro e w6 ⟨rfl, hb6⟩; have HB6 := Lib.hid hb6; clear hb6)
          | (go_at_call 20; refine (lentInts_any x.touched _ _ (HTI.out _ (HCAR.out.1.trans ((ext_trans HB6.out ((ext_refl w6).alloc (Nat.le_refl _) _)).mono HCAR.out.1.size))) (by have := HBUD.out.2.2; omega)).mono ?_; rintro e w7 ⟨u7, rfl, hlent, hb7⟩
             obtain ⟨rfl, hlb⟩ := hlent
             have hb67 := ext_trans (ext_trans HB6.out ((ext_refl w6).alloc (Nat.le_refl _) (.cells #[.int .i64 1, .int .i64 r, .int .i64 pl, .slice At x.touched.length ct] 55))) hb7
             have hdb := (Blk.new w6 55 #[.int .i64 1, .int .i64 r, .int .i64 pl, .slice At x.touched.length ct]).ext hb7
             have hwg : w6.heap.size ≤ (w6.alloc (.cells #[.int .i64 1, .int .i64 r, .int .i64 pl, .slice At x.touched.length ct] 55)).heap.size := by simp
             have H7 := Lib.hid (And.intro hb67 (And.intro hdb (And.intro hlb hwg)))
             have d0 := hdb.cell 0
             have d1 := hdb.cell 1
             have d2 := hdb.cell 2
             have d3 := hdb.cell 3
             have dl := hdb.lt
             generalize hgw : (w6.alloc (.cells #[.int .i64 1, .int .i64 r, .int .i64 pl, .slice At x.touched.length ct] 55)).heap.size = g at *
             clear hlb hdb hb67 hb7 hwg hgw k0 k1 k2 k3))
        obtain ⟨S, R, hs0, hr0, hdj, rfl⟩ := HTW.out
        have HS7 := Lib.hid (And.intro (hs0.ext H7.out.1) (And.intro (hr0.ext H7.out.1) hdj))
        have hU7 : ∀ k, (S k ∨ R k) → k < wr.heap.size := fun k hk => hk.elim (hs0.slt k) (hr0.slt k)
        have HNB := Lib.hid (show ¬ (S w6.heap.size ∨ R w6.heap.size) from fun h => by have := hU7 _ h; have := HB6.out.size; omega)
        have HNG := Lib.hid (show ¬ (S g ∨ R g) from fun h => by have := hU7 _ h; have := HB6.out.size; have := H7.out.2.2.2; omega)
        have HC7 := Lib.hid (HCAR.out.step (Step.ext H7.out.1))
        clear hs0 hr0 hdj hU7
        refine AtE.start (S := fun w' => w'.cell? ⟨w6.heap.size, 1, none⟩ = some (.int .i64 r) ∧ w'.cell? ⟨w6.heap.size, 2, none⟩ = some (.int .i64 pl) ∧ w'.cell? ⟨w6.heap.size, 3, none⟩ = some (.slice At x.touched.length ct)) 13 (by kernel_rfl) (by kernel_rfl) (by exact ⟨by simpa using d1, by simpa using d2, by simpa using d3⟩) (fun hHeld => ?_)
        refine AtE.take (i := 0) (v := ?_) rfl (by kernel_rfl) (by kernel_rfl) (by kernel_rfl) (fun _ _ _ h => h) (by decide) (Or.inl ⟨by rfl, ?_⟩) hHeld ?_
        rotate_left
        · intro w hSw; go_simp; try (with_reducible rfl)
        simp only [Act.put, List.setIfInBounds_toArray, List.set_cons_zero, List.set_cons_succ]
        refine AtE.take (i := 1) (v := ?_) rfl (by kernel_rfl) (by kernel_rfl) (by kernel_rfl) (fun _ _ _ h => h) (by decide) (Or.inl ⟨by rfl, ?_⟩) hHeld ?_
        rotate_left
        · intro w hSw; go_simp; try (with_reducible rfl)
        simp only [Act.put, List.setIfInBounds_toArray, List.set_cons_zero, List.set_cons_succ]
        refine AtE.take (i := 2) (v := ?_) rfl (by kernel_rfl) (by kernel_rfl) (by kernel_rfl) (fun _ _ _ h => h) (by decide) (Or.inl ⟨by rfl, ?_⟩) hHeld ?_
        rotate_left
        · intro w hSw; go_simp; try (with_reducible rfl)
        simp only [Act.put, List.setIfInBounds_toArray, List.set_cons_zero, List.set_cons_succ]
        refine AtE.take (i := 3) (v := ?_) rfl (by kernel_rfl) (by kernel_rfl) (by kernel_rfl) (fun _ _ _ h => h) (by decide) (Or.inl ⟨by rfl, ?_⟩) hHeld ?_
        rotate_left
        · intro w hSw; go_simp; try (with_reducible rfl)
        simp only [Act.put, List.setIfInBounds_toArray, List.set_cons_zero, List.set_cons_succ]
        refine AtE.take (i := 4) (v := ?_) rfl (by kernel_rfl) (by kernel_rfl) (by kernel_rfl) (fun _ _ _ h => h) (by decide) (Or.inl ⟨by rfl, ?_⟩) hHeld ?_
        rotate_left
        · intro w hSw; go_simp; try (with_reducible rfl)
        simp only [Act.put, List.setIfInBounds_toArray, List.set_cons_zero, List.set_cons_succ]
        refine AtE.take (i := 6) (v := ?_) rfl (by kernel_rfl) (by kernel_rfl) (by kernel_rfl) (fun _ _ _ h => h) (by decide) (Or.inl ⟨by rfl, ?_⟩) hHeld ?_
        rotate_left
        · intro w hSw; go_simp; try (with_reducible rfl)
        simp only [Act.put, List.setIfInBounds_toArray, List.set_cons_zero, List.set_cons_succ]
        refine AtE.take (i := 7) (v := ?_) rfl (by kernel_rfl) (by kernel_rfl) (by kernel_rfl) (fun _ _ _ h => h) (by decide) (Or.inl ⟨by rfl, ?_⟩) hHeld ?_
        rotate_left
        · intro w hSw; go_simp; try (with_reducible rfl)
        simp only [Act.put, List.setIfInBounds_toArray, List.set_cons_zero, List.set_cons_succ]
        refine AtE.take (i := 8) (v := ?_) rfl (by kernel_rfl) (by kernel_rfl) (by kernel_rfl) (fun _ _ _ h => h) (by decide) (Or.inl ⟨by rfl, ?_⟩) hHeld ?_
        rotate_left
        · intro w hSw; go_simp; try (with_reducible rfl)
        simp only [Act.put, List.setIfInBounds_toArray, List.set_cons_zero, List.set_cons_succ]
        refine AtE.take (i := 9) (v := ?_) rfl (by kernel_rfl) (by kernel_rfl) (by kernel_rfl) (fun _ _ _ h => h) (by decide) (Or.inl ⟨by rfl, ?_⟩) hHeld ?_
        rotate_left
        · intro w hSw; go_simp; try (with_reducible rfl)
        simp only [Act.put, List.setIfInBounds_toArray, List.set_cons_zero, List.set_cons_succ]
        refine AtE.take (i := 10) (v := ?_) rfl (by kernel_rfl) (by kernel_rfl) (by kernel_rfl) (fun _ _ _ h => h) (by decide) (Or.inl ⟨by rfl, ?_⟩) hHeld ?_
        rotate_left
        · intro w hSw; go_simp; try (with_reducible rfl)
        simp only [Act.put, List.setIfInBounds_toArray, List.set_cons_zero, List.set_cons_succ]
        refine AtE.one (i := 5) rfl (by kernel_rfl) (fun K hK => ?_)
        go_simp
        refine (read_uni S l r pl p w7.drew (HS7.out.1.ext (ext_refl w7).drew)).mono ?_
        rintro e w8 ⟨T, rfl, hs8, st8⟩
        have st8' : Step S T w7 w8 := (Step.ext (ext_refl w7).drew).trans st8
        have hr8 := HS7.out.2.1.keep st8'.upd (fun j hj hj' => HS7.out.2.2 j hj' hj)
        have hd8 := H7.out.2.1.keep st8'.upd (fun h => HNB.out (.inl h))
        have H8 := Lib.hid (And.intro hs8 (And.intro st8' hr8))
        have e1 := hd8.cell 1
        have e2 := hd8.cell 2
        have e3 := hd8.cell 3
        refine hK.out _ _ (fun _ => ⟨e1, e2, e3⟩) (fun hHeld' => ?_)
        have hHeld := hHeld' (by decide)
        have HD8 := Lib.hid hd8
        clear hK K hHeld' hs8 st8 st8' hr8 hd8 e1 e2 e3
        refine AtE.one (i := 11) rfl (by kernel_rfl) (fun K hK => ?_)
        go_simp
        refine (readR_uni r pl H8.out.2.2 HI.out.2.1 (by have := HBUD.out; omega)).mono ?_
        rintro e w9 ⟨R1, rfl, hr9, st9⟩
        obtain ⟨U9, htw9, st79⟩ := Tw.both HS7.out.1 HS7.out.2.1 HS7.out.2.2 H8.out.1 H8.out.2.1 hr9 st9
        have hd9 := H7.out.2.1.keep st79.upd HNB.out
        have e1 := hd9.cell 1
        have e2 := hd9.cell 2
        have e3 := hd9.cell 3
        refine hK.out _ _ (fun _ => ⟨e1, e2, e3⟩) (fun hHeld' => ?_)
        have hHeld := hHeld' (by decide)
        have HTX := Lib.hid htw9
        have HSX := Lib.hid st79
        clear hK K hHeld' hr9 st9 htw9 st79 hd9 e1 e2 e3
        refine AtE.take (i := 12) (v := ?_) rfl (by kernel_rfl) (by kernel_rfl) (by kernel_rfl) (fun _ _ _ h => h) (by decide) (Or.inl ⟨by rfl, ?_⟩) hHeld ?_
        rotate_left
        · intro w hSw; go_simp; try (with_reducible rfl)
        simp only [Act.put, List.setIfInBounds_toArray, List.set_cons_zero, List.set_cons_succ]
        refine AtE.one (i := 13) rfl (by kernel_rfl) (fun K hK => ?_)
        go_simp
        refine hK.out _ _ (fun h => absurd rfl h) (fun _ => ?_)
        clear hK K
        refine AtE.done (by kernel_rfl) ?_
        clear hHeld d0 d1 d2 d3 dl
        have HBX := Lib.hid (HI.out.2.1.read pl HI.out.2.2.1)
        generalize (readB l r pl).2 = l2 at *
        have hdx := Cel.step (S := fun k => S k ∨ R k) ⟨H7.out.2.1, HNB.out⟩ HSX.out
        have hlx := Cel.step (S := fun k => S k ∨ R k) ⟨H7.out.2.2.1, HNG.out⟩ HSX.out
        have hcx := HC7.out.step HSX.out
        have z0 := hdx.1.cell 0
        have z1 := hdx.1.cell 1
        have z2 := hdx.1.cell 2
        have z3 := hdx.1.cell 3
        have zl := hdx.1.lt
        have HX := Lib.hid (And.intro hdx (And.intro hlx hcx))
        clear hdx hlx hcx
        go_wp2_with (first
          | (go_at_call 31; refine (keptInts_any x.touched _ _ g _ ⟨rfl, HX.out.2.1.1⟩ (HTI.out _ HX.out.2.2.1) (by have := HBUD.out.2.2; omega)).mono ?_; rintro e wk ⟨rfl, hdr⟩
             have hbk := drew_ext hdr
             have HBK := Lib.hid hbk
             clear hdr hbk)
          | (go_at_call 32; refine (overInts_any x.touched.length (x.touched.length + 12) g _ _ (HX.out.2.1.1.ext HBK.out) (by simp [marks]) (by omega) (by have := HBUD.out.2.2; unfold maxLen; omega) (by have := HBUD.out.2.2; omega)).mono ?_; rintro e wo ⟨rfl, huo, -⟩
             have hng : w6.heap.size ≠ g := fun e => by
               have h1 := H7.out.2.1
               have h2 := H7.out.2.2.1
               rw [e] at h1
               exact Blk.ne_ h1 h2 (by decide) rfl
             have hdo := (HX.out.1.1.ext HBK.out).keep huo hng
             have z0 := hdo.cell 0
             have z1 := hdo.cell 1
             have z2 := hdo.cell 2
             have z3 := hdo.cell 3
             have zl := hdo.lt
             have htwo := (HTX.out.ext HBK.out).keep huo (fun j hj e => by subst e; exact HX.out.2.1.2 hj)
             have hcg : w.heap.size ≤ g := Nat.le_trans (Nat.le_trans HCAR.out.1.size HB6.out.size) H7.out.2.2.2
             have hco := (HX.out.2.2.step (Step.ext HBK.out)).side huo (fun j e => by subst e; exact hcg)
             have HO := Lib.hid (And.intro htwo hco)
             clear huo hng hdo htwo hcg hco)
          | (go_at_call 33
             obtain ⟨S9, R9, hs9, hr9, _, _⟩ := HO.out.1
             refine (same_any p q (n + 1) S9 R9 l2 ⟨1, r, pl, x.touched⟩ (.slice At x.touched.length ct) wo hs9 hr9 HBX.out (by have := HBUD.out; omega) (HTI.out wo HO.out.2.1)).mono ?_; rintro e we ⟨rfl, hbe⟩
             have HBE := Lib.hid hbe
             clear hbe hs9 hr9))
        go_roundw
        case rel =>
          exact ⟨k + 1, _, _, _, _, by omega, rfl, by go_num, HO.out.1.ext HBE.out, HBX.out, by rw [HSK.out]; have := HBUD.out.1; omega, HO.out.2.step (Step.ext HBE.out)⟩
        case measure => simp [intOf]; omega
      · go_wp2_with (first
          | (go_at_call 19; refine hTU.out.mono ?_; rintro e w6 ⟨rfl, hb6⟩; have HB6 := Lib.hid hb6; clear hb6)
          | (go_at_call 20; refine (lentInts_any x.touched _ _ (HTI.out _ (HCAR.out.1.trans ((ext_trans HB6.out ((ext_refl w6).alloc (Nat.le_refl _) _)).mono HCAR.out.1.size))) (by have := HBUD.out.2.2; omega)).mono ?_; rintro e w7 ⟨u7, rfl, hlent, hb7⟩
             obtain ⟨rfl, hlb⟩ := hlent
             have hb67 := ext_trans (ext_trans HB6.out ((ext_refl w6).alloc (Nat.le_refl _) (.cells #[.int .i64 2, .int .i64 r, .int .i64 pl, .slice At x.touched.length ct] 55))) hb7
             have hdb := (Blk.new w6 55 #[.int .i64 2, .int .i64 r, .int .i64 pl, .slice At x.touched.length ct]).ext hb7
             have hwg : w6.heap.size ≤ (w6.alloc (.cells #[.int .i64 2, .int .i64 r, .int .i64 pl, .slice At x.touched.length ct] 55)).heap.size := by simp
             have H7 := Lib.hid (And.intro hb67 (And.intro hdb (And.intro hlb hwg)))
             have d0 := hdb.cell 0
             have d1 := hdb.cell 1
             have d2 := hdb.cell 2
             have d3 := hdb.cell 3
             have dl := hdb.lt
             generalize hgw : (w6.alloc (.cells #[.int .i64 2, .int .i64 r, .int .i64 pl, .slice At x.touched.length ct] 55)).heap.size = g at *
             clear hlb hdb hb67 hb7 hwg hgw k0 k1 k2 k3))
        obtain ⟨S, R, hs0, hr0, hdj, rfl⟩ := HTW.out
        have HS7 := Lib.hid (And.intro (hs0.ext H7.out.1) (And.intro (hr0.ext H7.out.1) hdj))
        have hU7 : ∀ k, (S k ∨ R k) → k < wr.heap.size := fun k hk => hk.elim (hs0.slt k) (hr0.slt k)
        have HNB := Lib.hid (show ¬ (S w6.heap.size ∨ R w6.heap.size) from fun h => by have := hU7 _ h; have := HB6.out.size; omega)
        have HNG := Lib.hid (show ¬ (S g ∨ R g) from fun h => by have := hU7 _ h; have := HB6.out.size; have := H7.out.2.2.2; omega)
        have HC7 := Lib.hid (HCAR.out.step (Step.ext H7.out.1))
        clear hs0 hr0 hdj hU7
        refine AtE.start (S := fun w' => w'.cell? ⟨w6.heap.size, 1, none⟩ = some (.int .i64 r) ∧ w'.cell? ⟨w6.heap.size, 2, none⟩ = some (.int .i64 pl) ∧ w'.cell? ⟨w6.heap.size, 3, none⟩ = some (.slice At x.touched.length ct)) 12 (by kernel_rfl) (by kernel_rfl) (by exact ⟨by simpa using d1, by simpa using d2, by simpa using d3⟩) (fun hHeld => ?_)
        refine AtE.take (i := 0) (v := ?_) rfl (by kernel_rfl) (by kernel_rfl) (by kernel_rfl) (fun _ _ _ h => h) (by decide) (Or.inl ⟨by rfl, ?_⟩) hHeld ?_
        rotate_left
        · intro w hSw; go_simp; try (with_reducible rfl)
        simp only [Act.put, List.setIfInBounds_toArray, List.set_cons_zero, List.set_cons_succ]
        refine AtE.take (i := 1) (v := ?_) rfl (by kernel_rfl) (by kernel_rfl) (by kernel_rfl) (fun _ _ _ h => h) (by decide) (Or.inl ⟨by rfl, ?_⟩) hHeld ?_
        rotate_left
        · intro w hSw; go_simp; try (with_reducible rfl)
        simp only [Act.put, List.setIfInBounds_toArray, List.set_cons_zero, List.set_cons_succ]
        refine AtE.take (i := 2) (v := ?_) rfl (by kernel_rfl) (by kernel_rfl) (by kernel_rfl) (fun _ _ _ h => h) (by decide) (Or.inl ⟨by rfl, ?_⟩) hHeld ?_
        rotate_left
        · intro w hSw; go_simp; try (with_reducible rfl)
        simp only [Act.put, List.setIfInBounds_toArray, List.set_cons_zero, List.set_cons_succ]
        refine AtE.take (i := 3) (v := ?_) rfl (by kernel_rfl) (by kernel_rfl) (by kernel_rfl) (fun _ _ _ h => h) (by decide) (Or.inl ⟨by rfl, ?_⟩) hHeld ?_
        rotate_left
        · intro w hSw; go_simp; try (with_reducible rfl)
        simp only [Act.put, List.setIfInBounds_toArray, List.set_cons_zero, List.set_cons_succ]
        refine AtE.take (i := 5) (v := ?_) rfl (by kernel_rfl) (by kernel_rfl) (by kernel_rfl) (fun _ _ _ h => h) (by decide) (Or.inl ⟨by rfl, ?_⟩) hHeld ?_
        rotate_left
        · intro w hSw; go_simp; try (with_reducible rfl)
        simp only [Act.put, List.setIfInBounds_toArray, List.set_cons_zero, List.set_cons_succ]
        refine AtE.take (i := 6) (v := ?_) rfl (by kernel_rfl) (by kernel_rfl) (by kernel_rfl) (fun _ _ _ h => h) (by decide) (Or.inl ⟨by rfl, ?_⟩) hHeld ?_
        rotate_left
        · intro w hSw; go_simp; try (with_reducible rfl)
        simp only [Act.put, List.setIfInBounds_toArray, List.set_cons_zero, List.set_cons_succ]
        refine AtE.take (i := 7) (v := ?_) rfl (by kernel_rfl) (by kernel_rfl) (by kernel_rfl) (fun _ _ _ h => h) (by decide) (Or.inl ⟨by rfl, ?_⟩) hHeld ?_
        rotate_left
        · intro w hSw; go_simp; try (with_reducible rfl)
        simp only [Act.put, List.setIfInBounds_toArray, List.set_cons_zero, List.set_cons_succ]
        refine AtE.take (i := 8) (v := ?_) rfl (by kernel_rfl) (by kernel_rfl) (by kernel_rfl) (fun _ _ _ h => h) (by decide) (Or.inl ⟨by rfl, ?_⟩) hHeld ?_
        rotate_left
        · intro w hSw; go_simp; try (with_reducible rfl)
        simp only [Act.put, List.setIfInBounds_toArray, List.set_cons_zero, List.set_cons_succ]
        refine AtE.take (i := 9) (v := ?_) rfl (by kernel_rfl) (by kernel_rfl) (by kernel_rfl) (fun _ _ _ h => h) (by decide) (Or.inl ⟨by rfl, ?_⟩) hHeld ?_
        rotate_left
        · intro w hSw; go_simp; try (with_reducible rfl)
        simp only [Act.put, List.setIfInBounds_toArray, List.set_cons_zero, List.set_cons_succ]
        refine AtE.one (i := 4) rfl (by kernel_rfl) (fun K hK => ?_)
        go_simp
        refine (use_uni S l x.touched _ pl p w7.drew (HS7.out.1.ext (ext_refl w7).drew) (Lent.ints (g := g) ⟨rfl, H7.out.2.2.1⟩ (by have := HBUD.out.2.2; omega))).mono ?_
        rintro e w8 ⟨T, rfl, hs8, st8⟩
        have st8' : Step S T w7 w8 := (Step.ext (ext_refl w7).drew).trans st8
        have hr8 := HS7.out.2.1.keep st8'.upd (fun j hj hj' => HS7.out.2.2 j hj' hj)
        have hd8 := H7.out.2.1.keep st8'.upd (fun h => HNB.out (.inl h))
        have H8 := Lib.hid (And.intro hs8 (And.intro st8' hr8))
        have e1 := hd8.cell 1
        have e2 := hd8.cell 2
        have e3 := hd8.cell 3
        refine hK.out _ _ (fun _ => ⟨e1, e2, e3⟩) (fun hHeld' => ?_)
        have hHeld := hHeld' (by decide)
        have HD8 := Lib.hid hd8
        clear hK K hHeld' hs8 st8 st8' hr8 hd8 e1 e2 e3
        refine AtE.one (i := 10) rfl (by kernel_rfl) (fun K hK => ?_)
        go_simp
        refine (useR_uni _ x.touched pl H8.out.2.2 HI.out.2.1 (by have := HBUD.out; omega) (by have := HBUD.out; omega) (fun T' W st' => HTI.out W ((HC7.out.1.trans (H8.out.2.1.upd.below (B := w.heap.size) HC7.out.1.size (fun j hj hS => by have := HC7.out.2 j (.inl hS); omega))).trans (st'.upd.below (B := w.heap.size) (Nat.le_trans HC7.out.1.size H8.out.2.1.upd.size) (fun j hj hR => by have := HC7.out.2 j (.inr hR); omega))))).mono ?_
        rintro e w9 ⟨R1, rfl, hr9, st9⟩
        obtain ⟨U9, htw9, st79⟩ := Tw.both HS7.out.1 HS7.out.2.1 HS7.out.2.2 H8.out.1 H8.out.2.1 hr9 st9
        have hd9 := H7.out.2.1.keep st79.upd HNB.out
        have e1 := hd9.cell 1
        have e2 := hd9.cell 2
        have e3 := hd9.cell 3
        refine hK.out _ _ (fun _ => ⟨e1, e2, e3⟩) (fun hHeld' => ?_)
        have hHeld := hHeld' (by decide)
        have HTX := Lib.hid htw9
        have HSX := Lib.hid st79
        clear hK K hHeld' hr9 st9 htw9 st79 hd9 e1 e2 e3
        refine AtE.take (i := 11) (v := ?_) rfl (by kernel_rfl) (by kernel_rfl) (by kernel_rfl) (fun _ _ _ h => h) (by decide) (Or.inl ⟨by rfl, ?_⟩) hHeld ?_
        rotate_left
        · intro w hSw; go_simp; try (with_reducible rfl)
        simp only [Act.put, List.setIfInBounds_toArray, List.set_cons_zero, List.set_cons_succ]
        refine AtE.one (i := 12) rfl (by kernel_rfl) (fun K hK => ?_)
        go_simp
        refine hK.out _ _ (fun h => absurd rfl h) (fun _ => ?_)
        clear hK K
        refine AtE.done (by kernel_rfl) ?_
        clear hHeld d0 d1 d2 d3 dl
        have HBX := Lib.hid (HI.out.2.1.use pl x.touched HI.out.1.2.2.1)
        generalize (useA l pl x.touched).2 = l2 at *
        have hdx := Cel.step (S := fun k => S k ∨ R k) ⟨H7.out.2.1, HNB.out⟩ HSX.out
        have hlx := Cel.step (S := fun k => S k ∨ R k) ⟨H7.out.2.2.1, HNG.out⟩ HSX.out
        have hcx := HC7.out.step HSX.out
        have z0 := hdx.1.cell 0
        have z1 := hdx.1.cell 1
        have z2 := hdx.1.cell 2
        have z3 := hdx.1.cell 3
        have zl := hdx.1.lt
        have HX := Lib.hid (And.intro hdx (And.intro hlx hcx))
        clear hdx hlx hcx
        go_wp2_with (first
          | (go_at_call 31; refine (keptInts_any x.touched _ _ g _ ⟨rfl, HX.out.2.1.1⟩ (HTI.out _ HX.out.2.2.1) (by have := HBUD.out.2.2; omega)).mono ?_; rintro e wk ⟨rfl, hdr⟩
             have hbk := drew_ext hdr
             have HBK := Lib.hid hbk
             clear hdr hbk)
          | (go_at_call 32; refine (overInts_any x.touched.length (x.touched.length + 12) g _ _ (HX.out.2.1.1.ext HBK.out) (by simp [marks]) (by omega) (by have := HBUD.out.2.2; unfold maxLen; omega) (by have := HBUD.out.2.2; omega)).mono ?_; rintro e wo ⟨rfl, huo, -⟩
             have hng : w6.heap.size ≠ g := fun e => by
               have h1 := H7.out.2.1
               have h2 := H7.out.2.2.1
               rw [e] at h1
               exact Blk.ne_ h1 h2 (by decide) rfl
             have hdo := (HX.out.1.1.ext HBK.out).keep huo hng
             have z0 := hdo.cell 0
             have z1 := hdo.cell 1
             have z2 := hdo.cell 2
             have z3 := hdo.cell 3
             have zl := hdo.lt
             have htwo := (HTX.out.ext HBK.out).keep huo (fun j hj e => by subst e; exact HX.out.2.1.2 hj)
             have hcg : w.heap.size ≤ g := Nat.le_trans (Nat.le_trans HCAR.out.1.size HB6.out.size) H7.out.2.2.2
             have hco := (HX.out.2.2.step (Step.ext HBK.out)).side huo (fun j e => by subst e; exact hcg)
             have HO := Lib.hid (And.intro htwo hco)
             clear huo hng hdo htwo hcg hco)
          | (go_at_call 33
             obtain ⟨S9, R9, hs9, hr9, _, _⟩ := HO.out.1
             refine (same_any p q (n + x.touched.length) S9 R9 l2 ⟨2, r, pl, x.touched⟩ (.slice At x.touched.length ct) wo hs9 hr9 HBX.out (by have := HBUD.out; omega) (HTI.out wo HO.out.2.1)).mono ?_; rintro e we ⟨rfl, hbe⟩
             have HBE := Lib.hid hbe
             clear hbe hs9 hr9))
        go_roundw
        case rel =>
          exact ⟨k + 1, _, _, _, _, by omega, rfl, by go_num, HO.out.1.ext HBE.out, HBX.out, by rw [HSK.out]; have := HBUD.out.1; omega, HO.out.2.step (Step.ext HBE.out)⟩
        case measure => simp [intOf]; omega
      · go_upto_region 18 with (first
          | (go_at_call 19; refine hTU.out.mono ?_; rintro e w6 ⟨rfl, hb6⟩; have HB6 := Lib.hid hb6; clear hb6)
          | (go_at_call 20; refine (lentInts_any x.touched _ _ (HTI.out _ (HCAR.out.1.trans ((ext_trans HB6.out ((ext_refl w6).alloc (Nat.le_refl _) _)).mono HCAR.out.1.size))) (by have := HBUD.out.2.2; omega)).mono ?_; rintro e w7 ⟨u7, rfl, hlent, hb7⟩
             obtain ⟨rfl, hlb⟩ := hlent
             have hb67 := ext_trans (ext_trans HB6.out ((ext_refl w6).alloc (Nat.le_refl _) (.cells #[.int .i64 3, .int .i64 r, .int .i64 pl, .slice At x.touched.length ct] 55))) hb7
             have hdb := (Blk.new w6 55 #[.int .i64 3, .int .i64 r, .int .i64 pl, .slice At x.touched.length ct]).ext hb7
             have hwg : w6.heap.size ≤ (w6.alloc (.cells #[.int .i64 3, .int .i64 r, .int .i64 pl, .slice At x.touched.length ct] 55)).heap.size := by simp
             have H7 := Lib.hid (And.intro hb67 (And.intro hdb (And.intro hlb hwg)))
             have d0 := hdb.cell 0
             have d1 := hdb.cell 1
             have d2 := hdb.cell 2
             have d3 := hdb.cell 3
             have dl := hdb.lt
             generalize hgw : (w6.alloc (.cells #[.int .i64 3, .int .i64 r, .int .i64 pl, .slice At x.touched.length ct] 55)).heap.size = g at *
             clear hlb hdb hb67 hb7 hwg hgw k0 k1 k2 k3))
        obtain ⟨S, R, hs0, hr0, hdj, rfl⟩ := HTW.out
        have HS7 := Lib.hid (And.intro (hs0.ext H7.out.1) (And.intro (hr0.ext H7.out.1) hdj))
        have hU7 : ∀ k, (S k ∨ R k) → k < wr.heap.size := fun k hk => hk.elim (hs0.slt k) (hr0.slt k)
        have HNB := Lib.hid (show ¬ (S w6.heap.size ∨ R w6.heap.size) from fun h => by have := hU7 _ h; have := HB6.out.size; omega)
        have HNG := Lib.hid (show ¬ (S g ∨ R g) from fun h => by have := hU7 _ h; have := HB6.out.size; have := H7.out.2.2.2; omega)
        have HC7 := Lib.hid (HCAR.out.step (Step.ext H7.out.1))
        clear hs0 hr0 hdj hU7
        clear d1 d2 d3
        rcases List.eq_nil_or_concat l with rfl | ⟨l0, f, rfl⟩
        · go_upto_region 28 with (first
            | (go_at_call 27; refine (leave_uni0 S p _ HS7.out.1).mono ?_; rintro e w8 ⟨rfl, hs8, st8⟩
               have H8 := Lib.hid (And.intro hs8 (And.intro st8 (HS7.out.2.1.keep st8.upd (fun j hj hj' => HS7.out.2.2 j hj' hj))))
               clear hs8 st8)
            | (go_at_call 28; refine (leaveR_uni0 (H8.out.2.2.ext ((ext_refl w8).alloc (Nat.le_refl _) _))).mono ?_; rintro e w9 ⟨rfl, hb9⟩
               have HB9 := Lib.hid hb9
               have hx9 := (Blk.new w8 65 #[.int .i64 0, .int .i64 0, .slice none 0 0, .bool false]).ext hb9
               have x0 := hx9.cell 0
               have x1 := hx9.cell 1
               have x2 := hx9.cell 2
               have x3 := hx9.cell 3
               have xl := hx9.lt
               clear hb9 hx9)
            | (go_at_call 29; refine (sameInts_any [] [] (.slice none 0 0) (.slice none 0 0) _ (RowI.nil _).ints (RowI.nil _).ints).mono ?_; rintro e w10 ⟨rfl, hdr⟩
               have HB10 := Lib.hid (drew_ext hdr)
               rw [decide_eq_true rfl]
               clear hdr))
          have st89 : Step S S w7 (w8.alloc (.cells #[.int .i64 0, .int .i64 0, .slice none 0 0, .bool false] 65)) := H8.out.2.1.trans (Step.ext ((ext_refl w8).alloc (Nat.le_refl _) _))
          have hba := (ext_refl w9).alloc (Nat.le_refl _) (.cells #[.int .i64 0, .int .i64 0, .slice none 0 0, .slice none 0 0, .bool false] 69)
          obtain ⟨U9, htw9, st79⟩ := Tw.both HS7.out.1 HS7.out.2.1 HS7.out.2.2 (H8.out.1.ext ((ext_refl w8).alloc (Nat.le_refl _) (.cells #[.int .i64 0, .int .i64 0, .slice none 0 0, .bool false] 65))) st89 ((H8.out.2.2.ext ((ext_refl w8).alloc (Nat.le_refl _) (.cells #[.int .i64 0, .int .i64 0, .slice none 0 0, .bool false] 65))).ext (ext_trans (ext_trans HB9.out hba) HB10.out)) (Step.ext (ext_trans (ext_trans HB9.out hba) HB10.out))
          have HTX := Lib.hid htw9
          have HSX := Lib.hid st79
          clear htw9 st79
          have HBX := Lib.hid (Bd.nil (n + 1))
          generalize ([] : List Fr) = l2 at *
          clear st89 x0 x1 x2 x3 xl
          have hdx := Cel.step (S := fun k => S k ∨ R k) ⟨H7.out.2.1, HNB.out⟩ HSX.out
          have hlx := Cel.step (S := fun k => S k ∨ R k) ⟨H7.out.2.2.1, HNG.out⟩ HSX.out
          have hcx := HC7.out.step HSX.out
          have z0 := hdx.1.cell 0
          have z1 := hdx.1.cell 1
          have z2 := hdx.1.cell 2
          have z3 := hdx.1.cell 3
          have zl := hdx.1.lt
          have HX := Lib.hid (And.intro hdx (And.intro hlx hcx))
          clear hdx hlx hcx
          go_wp2_with (first
            | (go_at_call 31; refine (keptInts_any x.touched _ _ g _ ⟨rfl, HX.out.2.1.1⟩ (HTI.out _ HX.out.2.2.1) (by have := HBUD.out.2.2; omega)).mono ?_; rintro e wk ⟨rfl, hdr⟩
               have hbk := drew_ext hdr
               have HBK := Lib.hid hbk
               clear hdr hbk)
            | (go_at_call 32; refine (overInts_any x.touched.length (x.touched.length + 12) g _ _ (HX.out.2.1.1.ext HBK.out) (by simp [marks]) (by omega) (by have := HBUD.out.2.2; unfold maxLen; omega) (by have := HBUD.out.2.2; omega)).mono ?_; rintro e wo ⟨rfl, huo, -⟩
               have hng : w6.heap.size ≠ g := fun e => by
                 have h1 := H7.out.2.1
                 have h2 := H7.out.2.2.1
                 rw [e] at h1
                 exact Blk.ne_ h1 h2 (by decide) rfl
               have hdo := (HX.out.1.1.ext HBK.out).keep huo hng
               have z0 := hdo.cell 0
               have z1 := hdo.cell 1
               have z2 := hdo.cell 2
               have z3 := hdo.cell 3
               have zl := hdo.lt
               have htwo := (HTX.out.ext HBK.out).keep huo (fun j hj e => by subst e; exact HX.out.2.1.2 hj)
               have hcg : w.heap.size ≤ g := Nat.le_trans (Nat.le_trans HCAR.out.1.size HB6.out.size) H7.out.2.2.2
               have hco := (HX.out.2.2.step (Step.ext HBK.out)).side huo (fun j e => by subst e; exact hcg)
               have HO := Lib.hid (And.intro htwo hco)
               clear huo hng hdo htwo hcg hco)
            | (go_at_call 33
               obtain ⟨S9, R9, hs9, hr9, _, _⟩ := HO.out.1
               refine (same_any p q (n + 1) S9 R9 l2 ⟨3, r, pl, x.touched⟩ (.slice At x.touched.length ct) wo hs9 hr9 HBX.out (by have := HBUD.out; omega) (HTI.out wo HO.out.2.1)).mono ?_; rintro e we ⟨rfl, hbe⟩
               have HBE := Lib.hid hbe
               clear hbe hs9 hr9))
          go_roundw
          case rel =>
            exact ⟨k + 1, _, _, _, _, by omega, rfl, by go_num, HO.out.1.ext HBE.out, HBX.out, by rw [HSK.out]; have := HBUD.out.1; omega, HO.out.2.step (Step.ext HBE.out)⟩
          case measure => simp [intOf]; omega
        · rw [List.concat_eq_append] at *
          have hff := HI.out.2.1.fr f (by simp)
          have hfl := hff.2.2.1
          go_upto_region 28 with (first
            | (go_at_call 27; refine (leave_new S l0 f p _ HS7.out.1 hff.2.1 (by have := HBUD.out; omega)).mono ?_; rintro e w8 ⟨T, A1, c1, rfl, hrow8, hs8, st8⟩
               have H8 := Lib.hid (And.intro hs8 (And.intro st8 (HS7.out.2.1.keep st8.upd (fun j hj hj' => HS7.out.2.2 j hj' hj))))
               have HR8 := Lib.hid hrow8
               clear hs8 st8 hrow8)
            | (go_at_call 28; refine (leaveR_uni f (H8.out.2.2.ext ((ext_refl w8).alloc (Nat.le_refl _) _))).mono ?_; rintro e w9 ⟨R1, u2, iv2, rfl, hrow9, ⟨A3, n3, c3, rfl⟩, -, hr9, st9⟩
               obtain ⟨A2, c2, rfl⟩ := ownsRow_form hrow9.1
               have hx9 := (Blk.new w8 65 #[.int .i64 f.rule, .int .i64 f.place, .slice A1 f.touched.length c1, .bool f.tainted]).keep st9.upd (fun hR => by have := HS7.out.2.1.slt _ hR; have := H8.out.2.1.upd.size; omega)
               have x0 := hx9.cell 0
               have x1 := hx9.cell 1
               have x2 := hx9.cell 2
               have x3 := hx9.cell 3
               have xl := hx9.lt
               have hu1 := ownsRow_keep (HR8.out.alloc (.cells #[.int .i64 f.rule, .int .i64 f.place, .slice A1 f.touched.length c1, .bool f.tainted] 65)) st9.upd (fun j hj hR => by have h1 := (HR8.out.lt j hj).1; have := HS7.out.2.1.slt _ hR; omega)
               have HU := Lib.hid (And.intro hu1 hrow9)
               have H9 := Lib.hid (And.intro hr9 st9)
               clear hx9 hu1 hrow9 hr9 st9)
            | (go_at_call 29; refine (sameInts_any f.touched f.touched (.slice A1 f.touched.length c1) (.slice A2 f.touched.length c2) _ (Reads.of_own (HU.out.1.alloc _)) (Reads.of_own (HU.out.2.1.alloc _))).mono ?_; rintro e w10 ⟨rfl, hdr⟩
               have HB10 := Lib.hid (drew_ext hdr)
               rw [decide_eq_true rfl]
               clear hdr))
          have st89 : Step S T w7 (w8.alloc (.cells #[.int .i64 f.rule, .int .i64 f.place, .slice A1 f.touched.length c1, .bool f.tainted] 65)) := H8.out.2.1.trans (Step.ext ((ext_refl w8).alloc (Nat.le_refl _) _))
          have hba := (ext_refl w9).alloc (Nat.le_refl _) (.cells #[.int .i64 f.rule, .int .i64 f.place, .slice A2 f.touched.length c2, .slice A3 n3 c3, .bool f.tainted] 69)
          obtain ⟨U9, htw9, st79⟩ := Tw.both HS7.out.1 HS7.out.2.1 HS7.out.2.2 (H8.out.1.ext ((ext_refl w8).alloc (Nat.le_refl _) (.cells #[.int .i64 f.rule, .int .i64 f.place, .slice A1 f.touched.length c1, .bool f.tainted] 65))) st89 (H9.out.1.ext (ext_trans hba HB10.out)) (H9.out.2.trans (Step.ext (ext_trans hba HB10.out)))
          have HTX := Lib.hid htw9
          have HSX := Lib.hid st79
          clear htw9 st79
          clear st89 x0 x1 x2 x3 xl
          have HBX := Lib.hid (HI.out.2.1.pop.mono (show n ≤ n + 1 by omega))
          generalize l0 = l2 at *
          have hdx := Cel.step (S := fun k => S k ∨ R k) ⟨H7.out.2.1, HNB.out⟩ HSX.out
          have hlx := Cel.step (S := fun k => S k ∨ R k) ⟨H7.out.2.2.1, HNG.out⟩ HSX.out
          have hcx := HC7.out.step HSX.out
          have z0 := hdx.1.cell 0
          have z1 := hdx.1.cell 1
          have z2 := hdx.1.cell 2
          have z3 := hdx.1.cell 3
          have zl := hdx.1.lt
          have HX := Lib.hid (And.intro hdx (And.intro hlx hcx))
          clear hdx hlx hcx
          go_wp2_with (first
            | (go_at_call 31; refine (keptInts_any x.touched _ _ g _ ⟨rfl, HX.out.2.1.1⟩ (HTI.out _ HX.out.2.2.1) (by have := HBUD.out.2.2; omega)).mono ?_; rintro e wk ⟨rfl, hdr⟩
               have hbk := drew_ext hdr
               have HBK := Lib.hid hbk
               clear hdr hbk)
            | (go_at_call 32; refine (overInts_any x.touched.length (x.touched.length + 12) g _ _ (HX.out.2.1.1.ext HBK.out) (by simp [marks]) (by omega) (by have := HBUD.out.2.2; unfold maxLen; omega) (by have := HBUD.out.2.2; omega)).mono ?_; rintro e wo ⟨rfl, huo, -⟩
               have hng : w6.heap.size ≠ g := fun e => by
                 have h1 := H7.out.2.1
                 have h2 := H7.out.2.2.1
                 rw [e] at h1
                 exact Blk.ne_ h1 h2 (by decide) rfl
               have hdo := (HX.out.1.1.ext HBK.out).keep huo hng
               have z0 := hdo.cell 0
               have z1 := hdo.cell 1
               have z2 := hdo.cell 2
               have z3 := hdo.cell 3
               have zl := hdo.lt
               have htwo := (HTX.out.ext HBK.out).keep huo (fun j hj e => by subst e; exact HX.out.2.1.2 hj)
               have hcg : w.heap.size ≤ g := Nat.le_trans (Nat.le_trans HCAR.out.1.size HB6.out.size) H7.out.2.2.2
               have hco := (HX.out.2.2.step (Step.ext HBK.out)).side huo (fun j e => by subst e; exact hcg)
               have HO := Lib.hid (And.intro htwo hco)
               clear huo hng hdo htwo hcg hco)
            | (go_at_call 33
               obtain ⟨S9, R9, hs9, hr9, _, _⟩ := HO.out.1
               refine (same_any p q (n + 1) S9 R9 l2 ⟨3, r, pl, x.touched⟩ (.slice At x.touched.length ct) wo hs9 hr9 HBX.out (by have := HBUD.out; omega) (HTI.out wo HO.out.2.1)).mono ?_; rintro e we ⟨rfl, hbe⟩
               have HBE := Lib.hid hbe
               clear hbe hs9 hr9))
          go_roundw
          case rel =>
            exact ⟨k + 1, _, _, _, _, by omega, rfl, by go_num, HO.out.1.ext HBE.out, HBX.out, by rw [HSK.out]; have := HBUD.out.1; omega, HO.out.2.step (Step.ext HBE.out)⟩
          case measure => simp [intOf]; omega
      · go_upto_region 22 with (first
          | (go_at_call 19; refine hTU.out.mono ?_; rintro e w6 ⟨rfl, hb6⟩; have HB6 := Lib.hid hb6; clear hb6)
          | (go_at_call 20; refine (lentInts_any x.touched _ _ (HTI.out _ (HCAR.out.1.trans ((ext_trans HB6.out ((ext_refl w6).alloc (Nat.le_refl _) _)).mono HCAR.out.1.size))) (by have := HBUD.out.2.2; omega)).mono ?_; rintro e w7 ⟨u7, rfl, hlent, hb7⟩
             obtain ⟨rfl, hlb⟩ := hlent
             have hb67 := ext_trans (ext_trans HB6.out ((ext_refl w6).alloc (Nat.le_refl _) (.cells #[.int .i64 4, .int .i64 r, .int .i64 pl, .slice At x.touched.length ct] 55))) hb7
             have hdb := (Blk.new w6 55 #[.int .i64 4, .int .i64 r, .int .i64 pl, .slice At x.touched.length ct]).ext hb7
             have hwg : w6.heap.size ≤ (w6.alloc (.cells #[.int .i64 4, .int .i64 r, .int .i64 pl, .slice At x.touched.length ct] 55)).heap.size := by simp
             have H7 := Lib.hid (And.intro hb67 (And.intro hdb (And.intro hlb hwg)))
             have d0 := hdb.cell 0
             have d1 := hdb.cell 1
             have d2 := hdb.cell 2
             have d3 := hdb.cell 3
             have dl := hdb.lt
             generalize hgw : (w6.alloc (.cells #[.int .i64 4, .int .i64 r, .int .i64 pl, .slice At x.touched.length ct] 55)).heap.size = g at *
             clear hlb hdb hb67 hb7 hwg hgw k0 k1 k2 k3))
        obtain ⟨S, R, hs0, hr0, hdj, rfl⟩ := HTW.out
        have HS7 := Lib.hid (And.intro (hs0.ext H7.out.1) (And.intro (hr0.ext H7.out.1) hdj))
        have hU7 : ∀ k, (S k ∨ R k) → k < wr.heap.size := fun k hk => hk.elim (hs0.slt k) (hr0.slt k)
        have HNB := Lib.hid (show ¬ (S w6.heap.size ∨ R w6.heap.size) from fun h => by have := hU7 _ h; have := HB6.out.size; omega)
        have HNG := Lib.hid (show ¬ (S g ∨ R g) from fun h => by have := hU7 _ h; have := HB6.out.size; have := H7.out.2.2.2; omega)
        have HC7 := Lib.hid (HCAR.out.step (Step.ext H7.out.1))
        clear hs0 hr0 hdj hU7
        clear d0 d1 d2 d3 dl
        go_upto_region 28 with (first
          | (go_at_call 30; refine (copy_uni S l p _ HS7.out.1 (by have := HI.out.2.1.len; have := HBUD.out; omega)).mono ?_; rintro e w8 ⟨q2, T2, rfl, hc8, hcn, hb8⟩
             have HC8 := Lib.hid (And.intro hc8 (And.intro hcn hb8))
             have hcd : Cel S w8 w6.heap.size _ _ := ⟨H7.out.2.1.ext hb8, fun h => HNB.out (.inl h)⟩
             have hcg : Cel S w8 g _ _ := ⟨H7.out.2.2.1.ext hb8, fun h => HNG.out (.inl h)⟩
             have HCG := Lib.hid (And.intro hcd hcg)
             have HA8 := Lib.hid (HS7.out.1.ext hb8)
             have d1 := hcd.1.cell 1
             have d2 := hcd.1.cell 2
             have d3 := hcd.1.cell 3
             have dl := hcd.1.lt
             clear hc8 hcn hb8 hcd hcg)
          | (go_at_call 23; refine (read_uni S l r pl p w8 HA8.out).mono ?_; rintro e w9 ⟨S1, rfl, hs9, st9⟩
             have HG9 := Lib.hid (And.intro (HCG.out.1.step st9) (HCG.out.2.step st9))
             have d1 := HG9.out.1.1.cell 1
             have d2 := HG9.out.1.1.cell 2
             have d3 := HG9.out.1.1.cell 3
             have dl := HG9.out.1.1.lt
             have HA9 := Lib.hid (And.intro hs9 st9)
             clear hs9 st9 HA8)
          | (go_at_call 25; refine (use_uni S1 (readB l r pl).2 x.touched _ pl p w9 HA9.out.1 (Lent.ints (g := g) ⟨rfl, HG9.out.2.1⟩ (by have := HBUD.out.2.2; omega))).mono ?_; rintro e w10 ⟨S2, rfl, hs10, st10⟩
             have HG10 := Lib.hid (And.intro (HG9.out.1.step st10) (HG9.out.2.step st10))
             have d1 := HG10.out.1.1.cell 1
             have d2 := HG10.out.1.1.cell 2
             have d3 := HG10.out.1.1.cell 3
             have dl := HG10.out.1.1.lt
             have HA10 := Lib.hid (And.intro hs10 (HA9.out.2.trans st10))
             clear hs10 st10)
          | (go_at_call 21; refine (enter_uni S2 _ r pl p w10 HA10.out.1 (by have := ((HI.out.2.1.read pl HI.out.2.2.1).use pl x.touched HI.out.1.2.2.1).len; have := HBUD.out; omega)).mono ?_; rintro e w11 ⟨S3, rfl, hs11, st11⟩
             have HG11 := Lib.hid (And.intro (HG10.out.1.step st11) (HG10.out.2.step st11))
             have d1 := HG11.out.1.1.cell 1
             have d2 := HG11.out.1.1.cell 2
             have d3 := HG11.out.1.1.cell 3
             have dl := HG11.out.1.1.lt
             have HA11 := Lib.hid (And.intro hs11 (HA10.out.2.trans st11))
             clear hs11 st11)
          | (go_at_call 23; refine (read_uni S3 _ r pl p w11 HA11.out.1).mono ?_; rintro e w12 ⟨S4, rfl, hs12, st12⟩
             have HA12 := Lib.hid (HA11.out.2.trans st12)
             clear hs12 st12))
        have hT2 : ∀ j, T2 j → ¬ (S j ∨ R j) := fun j hj hu => by
          have h1 := HC8.out.2.1 j hj
          rcases hu with h | h
          · have := HS7.out.1.slt j h; omega
          · have := HS7.out.2.1.slt j h; omega
        have hso := HC8.out.1.keep HA12.out.upd (fun j hj hS => hT2 j hj (.inl hS))
        have hro := (HS7.out.2.1.ext HC8.out.2.2).keep HA12.out.upd (fun j hj hS => HS7.out.2.2 j hS hj)
        have HTX : Hid (Tw w12 q2 q (fun j => T2 j ∨ R j) l) := Lib.hid ⟨T2, R, hso, hro, fun j hj hR => hT2 j hj (.inr hR), rfl⟩
        have HSX : Hid (Step (fun j => S j ∨ R j) (fun j => T2 j ∨ R j) w7 w12) := Lib.hid ⟨(Upd.of_ext HC8.out.2.2).trans' HA12.out.upd (fun j hj hS => .inl hS), fun j hj => hj.elim (fun h => .inr (HC8.out.2.1 j h)) (fun h => .inl (.inr h))⟩
        clear hso hro hT2 d1 d2 d3 dl
        have HBX := Lib.hid (HI.out.2.1.mono (show n ≤ n + 1 by omega))
        generalize l = l2 at *
        have hdx := Cel.step (S := fun k => S k ∨ R k) ⟨H7.out.2.1, HNB.out⟩ HSX.out
        have hlx := Cel.step (S := fun k => S k ∨ R k) ⟨H7.out.2.2.1, HNG.out⟩ HSX.out
        have hcx := HC7.out.step HSX.out
        have z0 := hdx.1.cell 0
        have z1 := hdx.1.cell 1
        have z2 := hdx.1.cell 2
        have z3 := hdx.1.cell 3
        have zl := hdx.1.lt
        have HX := Lib.hid (And.intro hdx (And.intro hlx hcx))
        clear hdx hlx hcx
        go_wp2_with (first
          | (go_at_call 31; refine (keptInts_any x.touched _ _ g _ ⟨rfl, HX.out.2.1.1⟩ (HTI.out _ HX.out.2.2.1) (by have := HBUD.out.2.2; omega)).mono ?_; rintro e wk ⟨rfl, hdr⟩
             have hbk := drew_ext hdr
             have HBK := Lib.hid hbk
             clear hdr hbk)
          | (go_at_call 32; refine (overInts_any x.touched.length (x.touched.length + 12) g _ _ (HX.out.2.1.1.ext HBK.out) (by simp [marks]) (by omega) (by have := HBUD.out.2.2; unfold maxLen; omega) (by have := HBUD.out.2.2; omega)).mono ?_; rintro e wo ⟨rfl, huo, -⟩
             have hng : w6.heap.size ≠ g := fun e => by
               have h1 := H7.out.2.1
               have h2 := H7.out.2.2.1
               rw [e] at h1
               exact Blk.ne_ h1 h2 (by decide) rfl
             have hdo := (HX.out.1.1.ext HBK.out).keep huo hng
             have z0 := hdo.cell 0
             have z1 := hdo.cell 1
             have z2 := hdo.cell 2
             have z3 := hdo.cell 3
             have zl := hdo.lt
             have htwo := (HTX.out.ext HBK.out).keep huo (fun j hj e => by subst e; exact HX.out.2.1.2 hj)
             have hcg : w.heap.size ≤ g := Nat.le_trans (Nat.le_trans HCAR.out.1.size HB6.out.size) H7.out.2.2.2
             have hco := (HX.out.2.2.step (Step.ext HBK.out)).side huo (fun j e => by subst e; exact hcg)
             have HO := Lib.hid (And.intro htwo hco)
             clear huo hng hdo htwo hcg hco)
          | (go_at_call 33
             obtain ⟨S9, R9, hs9, hr9, _, _⟩ := HO.out.1
             refine (same_any q2 q (n + 1) S9 R9 l2 ⟨4, r, pl, x.touched⟩ (.slice At x.touched.length ct) wo hs9 hr9 HBX.out (by have := HBUD.out; omega) (HTI.out wo HO.out.2.1)).mono ?_; rintro e we ⟨rfl, hbe⟩
             have HBE := Lib.hid hbe
             clear hbe hs9 hr9))
        go_roundw
        case rel =>
          exact ⟨k + 1, _, _, _, _, by omega, rfl, by go_num, HO.out.1.ext HBE.out, HBX.out, by rw [HSK.out]; have := HBUD.out.1; omega, HO.out.2.step (Step.ext HBE.out)⟩
        case measure => simp [intOf]; omega
    · obtain rfl : k = ds.length := by omega
      have HC := Lib.hid hcar
      clear htw hbd hcar
      go_wp2_with (first
        | (go_at_call 8; refine (HA.out _).mono ?_; rintro e w9 ⟨rfl, hb9⟩))
      go_ret
      exact ⟨rfl, HC.out.1.trans (hb9.mono HC.out.1.size)⟩
end Go.Proofs.Ytjmidomcgaijjaa
