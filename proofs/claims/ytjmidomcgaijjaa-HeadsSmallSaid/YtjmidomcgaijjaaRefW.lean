/- The document's stack: entering, using. -/
import Derived.Test.YtjmidomcgaijjaaRefT
namespace Go.Proofs.Ytjmidomcgaijjaa
set_option linter.unusedVariables false
set_option linter.unusedSimpArgs false
open Go.RowKit

set_option maxRecDepth 100000 in
set_option maxHeartbeats 1600000 in
theorem enterR_any (q : Nat) (v : Value) (cs : List FrR) (r pl : Int) (w : World) (h : RefC w q v cs) (hn : cs.length ≤ 1000000) (hb : ∀ c ∈ cs, c.f.touched.length ≤ 900000) :
    Calls Try.prog 22 #[.pointer (some ⟨q, 0, none⟩), .int .i64 r, .int .i64 pl] w fun e w' => e = .returned (.int .i64 (enterA (frR cs) r pl).1) ∧ ∃ v' cs', RefC w' q v' cs' ∧ frR cs' = (enterA (frR cs) r pl).2 ∧ Step (RFoot q v cs) (RFoot q v' cs') w w' := by
  have HA := Lib.hid (atR_any q v cs r pl w h)
  have HL := Lib.hid (lowR_any q v cs pl w h)
  have HS := Lib.hid h
  have hg := posOf_ge (isPair r pl) (frR cs)
  clear h
  cases hst : standsAt (frR cs) r pl with
  | true =>
    have hE : enterA (frR cs) r pl = (8, frR cs) := by unfold enterA; rw [hst]; rfl
    rw [hE]
    unfold standsAt at hst
    rw [hst] at hg
    have hp : 0 ≤ posOf (isPair r pl) (frR cs) := by simpa using hg
    generalize posOf (isPair r pl) (frR cs) = pos at *
    clear hg hE hst
    go_enter Try.func22, Try.ntmps22
    go_wp2_with (first
      | (go_at_call 48; refine HA.out.mono ?_; rintro e w1 ⟨rfl, rfl⟩))
    go_ret
    exact ⟨rfl, v, cs, HS.out, rfl, Step.refl _ _⟩
  | false =>
    have hst' := hst
    unfold standsAt at hst
    rw [hst] at hg
    have hp : ¬ (0 ≤ posOf (isPair r pl) (frR cs)) := by simpa using hg
    generalize posOf (isPair r pl) (frR cs) = pos at *
    clear hg hst
    cases hlo : lowOf (frR cs) pl with
    | true =>
      have hE : enterA (frR cs) r pl = (2, frR cs) := by unfold enterA; rw [hst', hlo]; rfl
      rw [hE]
      rw [hlo] at HL
      clear hE hst' hlo
      go_enter Try.func22, Try.ntmps22
      go_wp2_with (first
        | (go_at_call 48; refine HA.out.mono ?_; rintro e w1 ⟨rfl, rfl⟩)
        | (go_at_call 49; refine HL.out.mono ?_; rintro e w2 ⟨rfl, hd⟩; have hb2 := drew_ext hd; clear hd))
      go_ret
      exact ⟨rfl, v, cs, HS.out.ext hb2, rfl, Step.ext hb2⟩
    | false =>
      have hE : enterA (frR cs) r pl = (0, (frR cs ++ [newF r pl]).map (touchF pl [r])) := by unfold enterA; rw [hst', hlo]; rfl
      rw [hE]
      rw [hlo] at HL
      have HB := Lib.hid hb
      clear hE hst' hlo hb
      obtain ⟨i0, hi, hz0, hz1, hz2⟩ := info_parts (P := Try.prog) (e := 69) (z := .agg #[.int .i64 0, .int .i64 0, .slice none 0 0, .slice none 0 0, .bool false]) (size := 5) (bytes := 72) (by kernel_rfl)
      go_enter Try.func22, Try.ntmps22
      go_wp2_with (first
        | (go_at_call 48; refine HA.out.mono ?_; rintro e w1 ⟨rfl, rfl⟩)
        | (go_at_call 49; refine HL.out.mono ?_; rintro e w2 ⟨rfl, hd⟩; have hb2 := Lib.hid (drew_ext hd); have c0 := (HS.out.ext hb2.out).c0; have cl := (HS.out.ext hb2.out).blk.lt; clear hd)
        | (at_builtin; refine wpList_app rfl (.tmp 19) (.tmp 23) 51 rfl 69 i0 _ 5 72 Try.underlying51 hi hz0 hz1 hz2 rfl (by decide) v cs.length (rowR cs) rfl ((HS.out.ext hb2.out).row.alloc _) _ 1 1 [.int .i64 r, .int .i64 pl, .slice none 0 0, .slice none 0 0, .bool false] rfl rfl (by simp) (cells_newA _ _ _ _ (by simp)) (by simp [Value.oneCell']) (by unfold maxLen; omega) (by omega) ?_
           intro A3 c3 w3 hrow3 hu3 hv3 hz3'
           have hal := (ext_refl w2).alloc (Nat.le_refl _) (.cells #[.int .i64 r, .int .i64 pl, .slice none 0 0, .slice none 0 0, .bool false] 69)
           have hb0 := ((HS.out.ext hb2.out).ext hal).blk.keep hu3 (fun e => ((HS.out.ext hb2.out).ext hal).own_ne e)
           have HP := Lib.hid (((HS.out.ext hb2.out).ext hal).push (c := ⟨newF r pl, .slice none 0 0, .slice none 0 0⟩) hrow3 hu3 hv3 ⟨rfl, rfl, rfl, rfl⟩)
           have HAL := Lib.hid hal
           have k0 : w3.cell? ⟨q, 0, none⟩ = some v := by rw [hb0.cell]; rfl
           have kf := hb0.frozen 0
           have kl := hb0.lt
           clear hrow3 hu3 hv3 hz3' hal hb0)
        | (go_at_call 50; refine (touchR_any q _ _ r pl _ HP.out.1 ?_).mono ?_
           · intro d hd
             rcases List.mem_append.1 hd with hd | hd
             · exact HB.out d hd
             · obtain rfl : d = ⟨newF r pl, .slice none 0 0, .slice none 0 0⟩ := by simpa using hd
               simp [newF]
           rintro e w4 ⟨rfl, cs', hc4, hf4, hs4⟩))
      go_ret
      refine ⟨rfl, _, cs', hc4, ?_, ((Step.ext (ext_trans hb2.out HAL.out)).trans HP.out.2).trans hs4⟩
      rw [hf4, frR_last]

theorem touchF_snoc (pl : Int) (ts : List Int) (k : Nat) (hk : k < ts.length) (f : Fr) : touchF pl (ts.take (k + 1)) f = touchF pl [ts[k]] (touchF pl (ts.take k) f) := by
  unfold touchF
  by_cases h : (f.place == pl) = true
  · simp only [h, if_true]
    have e : ts.take (k + 1) = ts.take k ++ [ts[k]] := List.take_succ_eq_append_getElem hk
    rw [e, insAll_append]
  · simp [h]
theorem touchF_nil (pl : Int) (f : Fr) : touchF pl [] f = f := by unfold touchF; split <;> simp [insAll]
theorem touchF_len (pl : Int) (ts : List Int) (f : Fr) : (touchF pl ts f).touched.length ≤ f.touched.length + ts.length := by
  unfold touchF
  split
  · show (insAll ts f.touched).length ≤ _
    have := length_insAll ts f.touched
    omega
  · omega

set_option maxRecDepth 100000 in
set_option maxHeartbeats 1600000 in
theorem useR_any (q : Nat) (v : Value) (cs : List FrR) (lv : Value) (ts : List Int) (pl : Int) (w : World) (h : RefC w q v cs) (hb : ∀ c ∈ cs, c.f.touched.length ≤ 800000) (hts : ts.length ≤ 100000) (hlv : Ints w lv ts)
    (hl : ∀ T W, Step (RFoot q v cs) T w W → Ints W lv ts) :
    Calls Try.prog 26 #[.pointer (some ⟨q, 0, none⟩), .int .i64 pl, lv] w fun e w' => e = .returned (.int .i64 (useA (frR cs) pl ts).1) ∧ ∃ cs', RefC w' q v cs' ∧ frR cs' = (useA (frR cs) pl ts).2 ∧ Step (RFoot q v cs) (RFoot q v cs') w w' := by
  have HL := Lib.hid (lowR_any q v cs pl w h)
  have HS := Lib.hid h
  obtain ⟨A, c, rfl, hc, hm, _, _⟩ := hlv.form
  unfold maxLen at hm
  have HLV := Lib.hid hl
  have HB := Lib.hid hb
  clear h hl hb hlv
  cases hlo : lowOf (frR cs) pl with
  | true =>
    have hE : useA (frR cs) pl ts = (2, frR cs) := by unfold useA; rw [hlo]; rfl
    rw [hE]
    rw [hlo] at HL
    clear hE hlo
    go_enter Try.func26, Try.ntmps26
    go_wp2_with (first
      | (go_at_call 49; refine HL.out.mono ?_; rintro e w2 ⟨rfl, hd⟩; have hb2 := drew_ext hd; clear hd))
    go_ret
    exact ⟨rfl, cs, HS.out.ext hb2, rfl, Step.ext hb2⟩
  | false =>
    have hE : useA (frR cs) pl ts = (0, (frR cs).map (touchF pl ts)) := by unfold useA; rw [hlo]; rfl
    rw [hE]
    rw [hlo] at HL
    clear hE hlo
    go_enter Try.func26, Try.ntmps26
    go_wp2_with (first
      | (go_at_call 49; refine HL.out.mono ?_; rintro e w2 ⟨rfl, hd⟩; have hb2 := Lib.hid (drew_ext hd); clear hd))
    go_loopw [7] (fun i wr => ∃ k : Nat, k ≤ ts.length ∧ i = .int .i64 k ∧ ∃ cs', RefC wr q v cs' ∧ frR cs' = (frR cs).map (touchF pl (ts.take k)) ∧ Step (RFoot q v cs) (RFoot q v cs') w wr) (fun i _ => ts.length - (intOf i).toNat)
    case atStart =>
      refine ⟨0, Nat.zero_le _, rfl, cs, HS.out.ext hb2.out, ?_, Step.ext hb2.out⟩
      rw [List.take_zero]
      exact ((List.map_congr_left (fun f _ => touchF_nil pl f)).trans (List.map_id _)).symm
    case round =>
      obtain ⟨k, hk, rfl, cs', hc', hfr, hst⟩ := hrel
      by_cases hlt : k < ts.length
      · have hI := HLV.out _ _ hst
        obtain ⟨A', c', e, _, _, _, hcells⟩ := hI.form
        injection e with e1 _ e2
        subst e1 e2
        obtain ⟨b, o, rfl, hcell⟩ := hcells (by omega)
        have g := hcell k hlt
        have hx : ts.getD k 0 = ts[k] := by simp [List.getD, hlt]
        rw [hx] at g
        have hkl : (k : Int) < (ts.length : Int) := by omega
        have hbd : ∀ d ∈ cs', d.f.touched.length ≤ 900000 := by
          intro d hd
          have hd' : d.f ∈ frR cs' := List.mem_map.2 ⟨d, hd, rfl⟩
          rw [hfr] at hd'
          obtain ⟨f, hf, e⟩ := List.mem_map.1 hd'
          obtain ⟨d0, hd0, rfl⟩ := List.mem_map.1 hf
          rw [← e]
          have h1 := touchF_len pl (ts.take k) d0.f
          have h2 := HB.out d0 hd0
          have h3 : (ts.take k).length ≤ 100000 := by rw [List.length_take]; omega
          omega
        have HT := Lib.hid (touchR_any q v cs' ts[k] pl wr hc' hbd)
        have HK := Lib.hid (And.intro hst hfr)
        have HSN := Lib.hid (fun f => touchF_snoc pl ts k hlt f)
        clear hcells hcell hx hI hbd hst hfr hc'
        generalize ts[k] = x at *
        go_wp2_with (first
          | (go_at_call 50; refine HT.out.mono ?_; rintro e w4 ⟨rfl, cs4, hc4, hf4, hs4⟩))
        go_roundw
        case rel =>
          refine ⟨k + 1, by omega, by go_num, cs4, hc4, ?_, HK.out.1.trans hs4⟩
          rw [hf4, HK.out.2, List.map_map]
          exact List.map_congr_left (fun f _ => (HSN.out f).symm)
        case measure => simp [intOf]; omega
      · obtain rfl : k = ts.length := by omega
        go_wp2
        go_ret
        refine ⟨rfl, cs', hc', ?_, hst⟩
        rw [hfr, List.take_length]
end Go.Proofs.Ytjmidomcgaijjaa
