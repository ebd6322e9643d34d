/- The document's stack: where a pair stands, whether a place is low, whether it is tainted. -/
import Derived.Test.YtjmidomcgaijjaaRef
namespace Go.Proofs.Ytjmidomcgaijjaa
set_option linter.unusedVariables false
set_option linter.unusedSimpArgs false
open Go.RowKit

set_option maxRecDepth 100000 in
set_option maxHeartbeats 800000 in
theorem atR_any (q : Nat) (v : Value) (cs : List FrR) (r pl : Int) (w : World) (h : RefC w q v cs) :
    Calls Try.prog 48 #[.pointer (some ⟨q, 0, none⟩), .int .i64 r, .int .i64 pl] w fun e w' => e = .returned (.int .i64 (posOf (isPair r pl) (frR cs))) ∧ w = w' := by
  have h1 := h.c0
  have hp := h.blk.lt
  obtain ⟨A, c, rfl, hc, hm, _, hcells⟩ := h.form
  unfold maxLen at hm
  have hlen := frR_length cs
  clear h
  go_enter Try.func48, Try.ntmps48
  go_wp2
  go_loopw [7] (fun i wr => ∃ k : Nat, k ≤ cs.length ∧ i = .int .i64 k ∧ w = wr ∧ ∀ j (hj : j < k) (hl : j < cs.length), isPair r pl cs[j].f = false) (fun i _ => cs.length - (intOf i).toNat)
  case atStart => exact ⟨0, Nat.zero_le _, rfl, rfl, fun _ h => by omega⟩
  case round =>
    obtain ⟨k, hk, rfl, rfl, hno⟩ := hrel
    have HN := Lib.hid hno
    clear hno
    by_cases hlt : k < cs.length
    · obtain ⟨g, rfl, hg, _, hcell⟩ := hcells (by omega)
      obtain ⟨g0, g1, _⟩ := hcell k hlt
      clear hcells hcell
      have HE := Lib.hid (show isPair r pl cs[k].f = (cs[k].f.rule == r && cs[k].f.place == pl) from rfl)
      generalize hx : cs[k] = x at *
      have HX := Lib.hid hx
      clear hx
      by_cases hr : (x.f.rule == r) = true
      · by_cases hpl : (x.f.place == pl) = true
        · have HQ := Lib.hid (And.intro hr hpl)
          go_wp2
          go_ret
          refine ⟨ret_int (posOf_hit (k := k) (by omega) ?_ (fun j hj => ?_)).symm, rfl⟩
          · have : (frR cs)[k]'(by omega) = x.f := by simp [frR, HX.out]
            rw [this, HE.out, HQ.out.1, HQ.out.2]; rfl
          · have := HN.out j hj (by omega)
            simpa [frR] using this
        · have hpl' : (x.f.place == pl) = false := by simpa using hpl
          have HQ := Lib.hid (And.intro hr hpl')
          clear hpl
          go_wp2
          go_roundw
          case rel =>
            refine ⟨k + 1, by omega, by go_num, trivial, fun j hj hl => ?_⟩
            by_cases hjk : j = k
            · subst hjk; rw [HX.out, HE.out, HQ.out.1, HQ.out.2]; rfl
            · exact HN.out j (by omega) hl
          case measure => simp [intOf]; omega
      · have hr' : (x.f.rule == r) = false := by simpa using hr
        have HQ := Lib.hid hr'
        clear hr
        go_wp2
        go_roundw
        case rel =>
          refine ⟨k + 1, by omega, by go_num, trivial, fun j hj hl => ?_⟩
          by_cases hjk : j = k
          · subst hjk; rw [HX.out, HE.out, HQ.out]; rfl
          · exact HN.out j (by omega) hl
        case measure => simp [intOf]; omega
    · obtain rfl : k = cs.length := by omega
      go_wp2
      go_ret
      refine ⟨ret_int (posOf_none (fun j hj => ?_)).symm, rfl⟩
      have := HN.out j (by omega) (by omega)
      simpa [frR] using this

theorem frR_last (cs : List FrR) (x : FrR) : frR (cs ++ [x]) = frR cs ++ [x.f] := by simp [frR]

set_option maxRecDepth 100000 in
set_option maxHeartbeats 800000 in
theorem lowR_any (q : Nat) (v : Value) (cs : List FrR) (pl : Int) (w : World) (h : RefC w q v cs) :
    Calls Try.prog 49 #[.pointer (some ⟨q, 0, none⟩), .int .i64 pl] w fun e w' => e = .returned (.bool (lowOf (frR cs) pl)) ∧ ∃ n, w' = w.drewN n := by
  have h1 := h.c0
  have hp := h.blk.lt
  obtain ⟨A, c, rfl, hc, hm, _, hcells⟩ := h.form
  unfold maxLen at hm
  rcases List.eq_nil_or_concat cs with rfl | ⟨cs', x, rfl⟩
  · clear hcells h
    go_enter Try.func49, Try.ntmps49
    go_wp2
    go_quiet (fail)
    go_wp2
    go_ret
    exact ⟨rfl, _, rfl⟩
  · obtain ⟨g, rfl, hbl, _, hcell⟩ := hcells (by simp)
    have g1 := (hcell cs'.length (by simp)).2.1
    have hx : (cs' ++ [x])[cs'.length]'(by simp) = x := by simp
    simp only [List.concat_eq_append] at g1 h1 hc h ⊢
    rw [hx] at g1
    have hl : (cs' ++ [x]).length = cs'.length + 1 := by simp
    rw [hl] at h1 hc
    have hres : lowOf (frR (cs' ++ [x])) pl = decide (pl < x.f.place) := by simp [lowOf, frR]
    have HR := Lib.hid hres
    have hdec : decide (0 < cs'.length + 1) = true := by simp
    have hpos : (0 : Int) < ((cs'.length + 1 : Nat) : Int) := by omega
    clear hcells h hx hl hres hcell
    go_enter Try.func49, Try.ntmps49
    go_wp2
    go_quiet (fail)
    go_wp2
    go_ret
    exact ⟨ret_bool HR.out.symm, _, rfl⟩

set_option maxRecDepth 100000 in
set_option maxHeartbeats 800000 in
theorem taintedR_any (q : Nat) (v : Value) (cs : List FrR) (w : World) (h : RefC w q v cs) :
    Calls Try.prog 55 #[.pointer (some ⟨q, 0, none⟩)] w fun e w' => e = .returned (.bool (taintedOf (frR cs))) ∧ ∃ n, w' = w.drewN n := by
  have h1 := h.c0
  have hp := h.blk.lt
  obtain ⟨A, c, rfl, hc, hm, _, hcells⟩ := h.form
  unfold maxLen at hm
  rcases List.eq_nil_or_concat cs with rfl | ⟨cs', x, rfl⟩
  · clear hcells h
    go_enter Try.func55, Try.ntmps55
    go_wp2
    go_quiet (fail)
    go_wp2
    go_ret
    exact ⟨rfl, _, rfl⟩
  · obtain ⟨g, rfl, hbl, _, hcell⟩ := hcells (by simp)
    have g1 := (hcell cs'.length (by simp)).2.2.2.2
    have hx : (cs' ++ [x])[cs'.length]'(by simp) = x := by simp
    simp only [List.concat_eq_append] at g1 h1 hc h ⊢
    rw [hx] at g1
    have hl : (cs' ++ [x]).length = cs'.length + 1 := by simp
    rw [hl] at h1 hc
    have hres : taintedOf (frR (cs' ++ [x])) = x.f.tainted := by simp [taintedOf, frR]
    have HR := Lib.hid hres
    have hdec : decide (0 < cs'.length + 1) = true := by simp
    have hpos : (0 : Int) < ((cs'.length + 1 : Nat) : Int) := by omega
    clear hcells h hx hl hres hcell
    go_enter Try.func55, Try.ntmps55
    go_wp2
    go_quiet (fail)
    go_wp2
    go_ret
    exact ⟨ret_bool HR.out.symm, _, rfl⟩

set_option maxRecDepth 100000 in
set_option maxHeartbeats 800000 in
theorem involvedR_any (q : Nat) (v : Value) (cs : List FrR) (r pl : Int) (w : World) (h : RefC w q v cs) :
    Calls Try.prog 57 #[.pointer (some ⟨q, 0, none⟩), .int .i64 r, .int .i64 pl] w fun e w' => ∃ u, e = .returned u ∧ RowI w u (involvedOf (frR cs) r pl) ∧ (∀ k, u.ownBlock = some k → RFoot q v cs k) ∧ w = w' := by
  have HA := Lib.hid (atR_any q v cs r pl w h)
  have h1 := h.c0
  have hp := h.blk.lt
  have HR := Lib.hid h
  obtain ⟨A, c, rfl, hc, hm, _, hcells⟩ := h.form
  unfold maxLen at hm
  have hlen := frR_length cs
  clear h
  cases hst : (frR cs).findIdx? (isPair r pl) with
  | none =>
    have hpos : posOf (isPair r pl) (frR cs) = -1 := by unfold posOf; rw [hst]
    have hfd : (frR cs).find? (isPair r pl) = none := by
      rw [List.find?_eq_none]
      intro x hx
      have := List.findIdx?_eq_none_iff.1 hst x hx
      simp [this]
    have hin : involvedOf (frR cs) r pl = [] := by unfold involvedOf; rw [hfd]
    have HIN := Lib.hid hin
    rw [hpos] at HA
    clear hpos hfd hin hst
    go_enter Try.func57, Try.ntmps57
    go_wp2_with (first
      | (go_at_call 48; refine HA.out.mono ?_; rintro e w1 ⟨rfl, rfl⟩))
    go_ret
    exact ⟨_, rfl, by rw [HIN.out]; exact RowI.nil _, fun k hk => by simp [Value.ownBlock] at hk, rfl⟩
  | some k =>
    have hpos : posOf (isPair r pl) (frR cs) = (k : Int) := by unfold posOf; rw [hst]
    obtain ⟨hk, hk1, hk2⟩ := List.findIdx?_eq_some_iff_getElem.1 hst
    have hk' : k < cs.length := by omega
    have hg : (frR cs)[k] = cs[k].f := by simp [frR]
    have hfd : (frR cs).find? (isPair r pl) = some cs[k].f := by
      rw [List.find?_eq_some_iff_getElem]
      refine ⟨by rw [← hg]; exact hk1, k, hk, hg, fun j hj => by simpa using hk2 j hj⟩
    have hin : involvedOf (frR cs) r pl = cs[k].f.involved := by unfold involvedOf; rw [hfd]
    have HIN := Lib.hid hin
    rw [hpos] at HA
    obtain ⟨g, rfl, hbl, _, hcell⟩ := hcells (by omega)
    have g1 := (hcell k hk').2.2.2.1
    have HRO := Lib.hid (And.intro (HR.out.rows _ (List.getElem_mem hk')).2 (List.getElem_mem hk'))
    have hkl : (k : Int) < (cs.length : Int) := by omega
    clear hpos hfd hin hst hcells hcell hg hk hk1 hk2
    generalize cs[k] = x at *
    go_enter Try.func57, Try.ntmps57
    go_wp2_with (first
      | (go_at_call 48; refine HA.out.mono ?_; rintro e w1 ⟨rfl, rfl⟩))
    go_ret
    exact ⟨_, rfl, by rw [HIN.out]; exact HRO.out.1, fun k hk => .inr (.inr ⟨_, HRO.out.2, .inr hk⟩), rfl⟩

set_option maxRecDepth 100000 in
set_option maxHeartbeats 800000 in
theorem freeR_any (q : Nat) (v : Value) (cs : List FrR) (lv : Value) (ts : List Int) (pl : Int) (w : World) (h : RefC w q v cs) (hl : Ints w lv ts) :
    Calls Try.prog 56 #[.pointer (some ⟨q, 0, none⟩), .int .i64 pl, lv] w fun e w' => e = .returned (.bool (!(ts.any fun r => standsAt (frR cs) r pl))) ∧ w = w' := by
  have HA := Lib.hid (fun r => atR_any q v cs r pl w h)
  obtain ⟨A, c, rfl, hc, hm, _, hcells⟩ := hl.form
  unfold maxLen at hm
  have HP := Lib.hid (fun r => posOf_ge (isPair r pl) (frR cs))
  clear h hl
  go_enter Try.func56, Try.ntmps56
  go_wp2
  go_loopw [7] (fun i wr => ∃ k : Nat, k ≤ ts.length ∧ i = .int .i64 k ∧ w = wr ∧ ∀ j (hj : j < k) (hl : j < ts.length), standsAt (frR cs) ts[j] pl = false) (fun i _ => ts.length - (intOf i).toNat)
  case atStart => exact ⟨0, Nat.zero_le _, rfl, rfl, fun _ h => by omega⟩
  case round =>
    obtain ⟨k, hk, rfl, rfl, hno⟩ := hrel
    have HN := Lib.hid hno
    clear hno
    by_cases hlt : k < ts.length
    · obtain ⟨b, o, rfl, hcell⟩ := hcells (by omega)
      have g := hcell k hlt
      have hx : ts.getD k 0 = ts[k] := by simp [List.getD, hlt]
      rw [hx] at g
      have hlk : (k : Int) < (ts.length : Int) := by omega
      clear hcells hcell hx
      have HP1 := Lib.hid (HP.out ts[k])
      have HAk := Lib.hid (HA.out ts[k])
      have HS := Lib.hid (show standsAt (frR cs) ts[k] pl = (frR cs).any (isPair ts[k] pl) from rfl)
      generalize hr : ts[k] = r at *
      have HX := Lib.hid hr
      clear hr
      by_cases hp : 0 ≤ posOf (isPair r pl) (frR cs)
      · have hd : (ts.any fun r => standsAt (frR cs) r pl) = true := by
          rw [List.any_eq_true]
          refine ⟨r, ?_, ?_⟩
          · rw [← HX.out]; exact List.getElem_mem hlt
          · rw [HS.out, ← HP1.out]; simpa using hp
        have HD := Lib.hid hd
        clear hd
        generalize posOf (isPair r pl) (frR cs) = pos at *
        go_wp2_with (first
          | (go_at_call 48; refine HAk.out.mono ?_; rintro e w1 ⟨rfl, rfl⟩))
        go_ret
        exact ⟨ret_bool (by rw [HD.out]; rfl), rfl⟩
      · have hd : standsAt (frR cs) r pl = false := by rw [HS.out, ← HP1.out]; simpa using hp
        have HD := Lib.hid hd
        clear hd
        generalize posOf (isPair r pl) (frR cs) = pos at *
        go_wp2_with (first
          | (go_at_call 48; refine HAk.out.mono ?_; rintro e w1 ⟨rfl, rfl⟩))
        go_roundw
        case rel =>
          refine ⟨k + 1, by omega, by go_num, trivial, fun j hj hl => ?_⟩
          by_cases hjk : j = k
          · subst hjk; rw [HX.out]; exact HD.out
          · exact HN.out j (by omega) hl
        case measure => simp [intOf]; omega
    · obtain rfl : k = ts.length := by omega
      go_wp2
      go_ret
      refine ⟨ret_bool ?_, rfl⟩
      have : (ts.any fun r => standsAt (frR cs) r pl) = false := by
        rw [List.any_eq_false]
        intro x hx
        obtain ⟨j, hj, rfl⟩ := List.getElem_of_mem hx
        simpa using HN.out j hj hj
      rw [this]; rfl
end Go.Proofs.Ytjmidomcgaijjaa
