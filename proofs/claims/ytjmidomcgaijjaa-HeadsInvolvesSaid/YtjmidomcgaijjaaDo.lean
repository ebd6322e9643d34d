/- What was done: one step, of any kind. -/
import Derived.Test.YtjmidomcgaijjaaStep2
import Derived.Test.YtjmidomcgaijjaaStep3
import Derived.Test.YtjmidomcgaijjaaStep4
import Derived.Test.YtjmidomcgaijjaaLeaveH
import Derived.Test.YtjmidomcgaijjaaInv
namespace Go.Proofs.Ytjmidomcgaijjaa
set_option linter.unusedVariables false
open Go.RowKit

structure Stp where
  what : Int
  rule : Int
  on : Bool
abbrev HI := Hist × List (List Int)
def hEnter (n : Nat) (r : Int) (on : Bool) (s : HI) : HI :=
  let P := if on then nowOf s.1.l + 1 else nowOf s.1.l
  if posOf (isSt r P) s.1.l < 0 then ({ s.1 with l := s.1.l ++ [⟨r, P, n⟩], touches := s.1.touches ++ [⟨n, r, P⟩] }, s.2 ++ [[]]) else s
def hLeave (s : HI) : HI := ({ s.1 with l := s.1.l.take (s.1.l.length - 1) }, s.2.take (s.1.l.length - 1))
def hRead (n : Nat) (r : Int) (s : HI) : HI :=
  if posOf (isSt r (nowOf s.1.l)) s.1.l < 0 then s
  else ({ s.1 with reads := s.1.reads ++ [⟨n, posOf (isSt r (nowOf s.1.l)) s.1.l⟩], touches := s.1.touches ++ [⟨n, r, nowOf s.1.l⟩] }, readI s.1 s.2 (posOf (isSt r (nowOf s.1.l)) s.1.l).toNat)
def hUse (n : Nat) (r : Int) (s : HI) : HI := if s.1.l.length = 0 then s else ({ s.1 with touches := s.1.touches ++ [⟨n, r, nowOf s.1.l⟩] }, s.2)
def hdo (n : Nat) (x : Stp) (s : HI) : HI :=
  if pick x.what 4 = 0 then hEnter n x.rule x.on s else if pick x.what 4 = 1 then hLeave s else if pick x.what 4 = 2 then hRead n x.rule s else hUse n x.rule s

theorem posOf_lt {α : Type} {q : α → Bool} {l : List α} (h : 0 ≤ posOf q l) : ∃ k : Nat, posOf q l = k ∧ k < l.length := by
  unfold posOf at h ⊢
  cases e : l.findIdx? q with
  | none => rw [e] at h; have h : (0 : Int) ≤ -1 := h; omega
  | some k => exact ⟨k, rfl, (List.findIdx?_eq_some_iff_getElem.1 e).1⟩

section
variable {H : Hist} {I : List (List Int)} {n : Nat}
theorem Tm.hEnter (h : Tm H I n) {r : Int} (hr : i64 r) (on : Bool) : Tm (hEnter n r on (H, I)).1 (hEnter n r on (H, I)).2 (n + 1) := by
  have hn := h.now
  cases on
  · by_cases hp : posOf (isSt r (nowOf H.l)) H.l < 0
    · have e : Ytjmidomcgaijjaa.hEnter n r false (H, I) = ({ H with l := H.l ++ [⟨r, nowOf H.l, n⟩], touches := H.touches ++ [⟨n, r, nowOf H.l⟩] }, I ++ [[]]) := by simp [Ytjmidomcgaijjaa.hEnter, hp]
      rw [e]; exact h.enter hr hp hn.1 (by omega)
    · have e : Ytjmidomcgaijjaa.hEnter n r false (H, I) = (H, I) := by simp [Ytjmidomcgaijjaa.hEnter, hp]
      rw [e]; exact h.same
  · by_cases hp : posOf (isSt r (nowOf H.l + 1)) H.l < 0
    · have e : Ytjmidomcgaijjaa.hEnter n r true (H, I) = ({ H with l := H.l ++ [⟨r, nowOf H.l + 1, n⟩], touches := H.touches ++ [⟨n, r, nowOf H.l + 1⟩] }, I ++ [[]]) := by simp [Ytjmidomcgaijjaa.hEnter, hp]
      rw [e]; exact h.enter hr hp (by omega) (by omega)
    · have e : Ytjmidomcgaijjaa.hEnter n r true (H, I) = (H, I) := by simp [Ytjmidomcgaijjaa.hEnter, hp]
      rw [e]; exact h.same
theorem Tm.hLeave (h : Tm H I n) : Tm (hLeave (H, I)).1 (hLeave (H, I)).2 (n + 1) := by
  unfold Ytjmidomcgaijjaa.hLeave
  rcases List.eq_nil_or_concat H.l with e | ⟨l, s, e⟩
  · have h1 : H.l.take (H.l.length - 1) = H.l := by rw [e]; rfl
    have h2 : I = [] := List.eq_nil_of_length_eq_zero (by rw [h.li, e]; rfl)
    dsimp only
    rw [h1, h2, List.take_nil]
    have := h.same
    rw [h2] at this
    exact this
  · rw [List.concat_eq_append] at e
    have h1 : H.l.length - 1 = l.length := by rw [e]; simp
    have h2 : H.l.take l.length = l := by rw [e]; simp
    dsimp only
    rw [h1, h2]
    exact h.leave e
theorem Tm.hRead (h : Tm H I n) {r : Int} (hr : i64 r) : Tm (hRead n r (H, I)).1 (hRead n r (H, I)).2 (n + 1) := by
  unfold Ytjmidomcgaijjaa.hRead
  dsimp only
  split
  · exact h.same
  · rename_i hp
    obtain ⟨k, e, hk⟩ := posOf_lt (Int.not_lt.1 hp)
    rw [e]
    exact h.read hr k hk
theorem Tm.hUse (h : Tm H I n) {r : Int} (hr : i64 r) : Tm (hUse n r (H, I)).1 (hUse n r (H, I)).2 (n + 1) := by
  unfold Ytjmidomcgaijjaa.hUse
  dsimp only
  split
  · exact h.same
  · exact h.touch hr
theorem Tm.hdo (h : Tm H I n) {x : Stp} (hr : i64 x.rule) : Tm (hdo n x (H, I)).1 (hdo n x (H, I)).2 (n + 1) := by
  unfold Ytjmidomcgaijjaa.hdo
  split
  · exact h.hEnter hr _
  · split
    · exact h.hLeave
    · split
      · exact h.hRead hr
      · exact h.hUse hr
end

/-- nothing of the history was turned, the stack was -/
theorem Step.side {S T G : Nat → Prop} {w w' : World} (h : Step S T w w') : Step (fun k => S k ∨ G k) (fun k => T k ∨ G k) w w' :=
  ⟨h.upd.mono (fun k _ hk => .inl hk), fun k hk => by
    rcases hk with hk | hk
    · exact (h.sub k hk).imp .inl id
    · exact .inl (.inr hk)⟩

section
variable {w : World} {q p : Nat} {F : Nat → Prop} {H : Hist} {I : List (List Int)} {n : Nat}
theorem enter_HH (what r : Int) (on : Bool) (h : HH w q p F H (frsOf H I)) (ht : Tm H I n) (hn : n ≤ 200) :
    Calls Try.prog 36 #[.pointer (some ⟨q, 0, none⟩), .int .i64 n, .agg #[.int .i64 what, .int .i64 r, .bool on]] w fun e w' =>
      e = .returned (.bool true) ∧ ∃ F', HH w' q p F' (hEnter n r on (H, I)).1 (frsOf (hEnter n r on (H, I)).1 (hEnter n r on (H, I)).2) ∧ Step F F' w w' := by
  obtain ⟨S, vl, vr, vt, hc, hs, rfl⟩ := h
  have hnow := ht.now
  have h1 := ht.ll
  have h2 := ht.lt
  have hl : (frsOf H I).length ≤ 1000000 := by rw [frsOf_length]; omega
  cases on
  · by_cases hp : posOf (isSt r (nowOf H.l)) H.l < 0
    · have e : hEnter n r false (H, I) = ({ H with l := H.l ++ [⟨r, nowOf H.l, n⟩], touches := H.touches ++ [⟨n, r, nowOf H.l⟩] }, I ++ [[]]) := by simp [hEnter, hp]
      rw [e]
      refine (henter_new_off q p S vl vr vt H _ _ n what r (nowOf H.l) w hc hs hl (by omega) (by omega) hnow.1 (by omega) rfl hp (enter_frs ht hp (Int.le_refl _))).mono ?_
      rintro e w' ⟨T, vl', vt', rfl, a, b, c⟩
      exact ⟨rfl, _, ⟨T, vl', vr, vt', a, b, rfl⟩, c⟩
    · have e : hEnter n r false (H, I) = (H, I) := by simp [hEnter, hp]
      rw [e]
      refine (henter_old_off q p S vl vr vt H _ _ n what r (nowOf H.l) w hc hs hl (by omega) (by omega) hnow.1 (by omega) rfl (Int.not_lt.1 hp) (enter_frs_old (Int.not_lt.1 hp))).mono ?_
      rintro e w' ⟨T, rfl, a, b, c⟩
      exact ⟨rfl, _, ⟨T, vl, vr, vt, a, b, rfl⟩, c.side⟩
  · by_cases hp : posOf (isSt r (nowOf H.l + 1)) H.l < 0
    · have e : hEnter n r true (H, I) = ({ H with l := H.l ++ [⟨r, nowOf H.l + 1, n⟩], touches := H.touches ++ [⟨n, r, nowOf H.l + 1⟩] }, I ++ [[]]) := by simp [hEnter, hp]
      rw [e]
      refine (henter_new_on q p S vl vr vt H _ _ n what r (nowOf H.l + 1) w hc hs hl (by omega) (by omega) hnow.1 (by omega) rfl hp (enter_frs ht hp (by omega))).mono ?_
      rintro e w' ⟨T, vl', vt', rfl, a, b, c⟩
      exact ⟨rfl, _, ⟨T, vl', vr, vt', a, b, rfl⟩, c⟩
    · have e : hEnter n r true (H, I) = (H, I) := by simp [hEnter, hp]
      rw [e]
      refine (henter_old_on q p S vl vr vt H _ _ n what r (nowOf H.l + 1) w hc hs hl (by omega) (by omega) hnow.1 (by omega) rfl (Int.not_lt.1 hp) (enter_frs_old (Int.not_lt.1 hp))).mono ?_
      rintro e w' ⟨T, rfl, a, b, c⟩
      exact ⟨rfl, _, ⟨T, vl, vr, vt, a, b, rfl⟩, c.side⟩

theorem leave_HH (h : HH w q p F H (frsOf H I)) (ht : Tm H I n) (hn : n ≤ 200) :
    Calls Try.prog 15 #[.pointer (some ⟨q, 0, none⟩)] w fun e w' =>
      e = .returned (.bool true) ∧ ∃ F', HH w' q p F' (hLeave (H, I)).1 (frsOf (hLeave (H, I)).1 (hLeave (H, I)).2) ∧ Step F F' w w' := by
  obtain ⟨S, vl, vr, vt, hc, hs, rfl⟩ := h
  have h1 := ht.ll
  have h2 := ht.lt
  rcases List.eq_nil_or_concat H.l with e | ⟨l, s, e⟩
  · have e0 : frsOf H I = [] := by unfold frsOf; rw [e]; rfl
    have e1 : H.l.take (H.l.length - 1) = H.l := by rw [e]; rfl
    have e2 : I = [] := List.eq_nil_of_length_eq_zero (by rw [ht.li, e]; rfl)
    have e3 : hLeave (H, I) = (H, I) := by unfold hLeave; dsimp only; rw [e1, e2, List.take_nil]
    rw [e3]
    rw [e0] at hs ⊢
    refine (hleave_none q p S vl vr vt H w hc hs (by rw [e]; rfl)).mono ?_
    rintro e w' ⟨rfl, a, b, c⟩
    exact ⟨rfl, _, ⟨S, vl, vr, vt, a, b, rfl⟩, c.side⟩
  · rw [List.concat_eq_append] at e
    have e1 : H.l.length - 1 = l.length := by rw [e]; simp
    have e2 : H.l.take l.length = l := by rw [e]; simp
    have e3 : hLeave (H, I) = ({ H with l := l }, I.take l.length) := by unfold hLeave; dsimp only; rw [e1, e2]
    rw [e3]
    rw [leave_frs e] at hs
    have hlt := length_tset H.touches s
    refine (hleave_some q p S vl vr vt H l s _ _ w hc hs e (by have : H.l.length = l.length + 1 := (by rw [e]; simp); omega) rfl rfl rfl (rising_tset _ _) ?_ (by show (tset H.touches s).length ≤ _; omega) ?_ ?_ (by omega)).mono ?_
    · intro x hx
      obtain ⟨t, ht', _, _, rfl⟩ := mem_tset.1 hx
      exact (ht.touches t ht').2
    · intro x hx
      exact touchedOf_iff.2 (mem_tset.1 hx)
    · intro t _ h
      exact mem_tset.2 (touchedOf_iff.1 h)
    · rintro e w' ⟨T, vl', rfl, a, b, c⟩
      exact ⟨rfl, _, ⟨T, vl', vr, vt, a, b, rfl⟩, c⟩

theorem read_HH (what r : Int) (on : Bool) (h : HH w q p F H (frsOf H I)) (ht : Tm H I n) (hn : n ≤ 200) :
    Calls Try.prog 37 #[.pointer (some ⟨q, 0, none⟩), .int .i64 n, .agg #[.int .i64 what, .int .i64 r, .bool on]] w fun e w' =>
      e = .returned (.bool true) ∧ ∃ F', HH w' q p F' (hRead n r (H, I)).1 (frsOf (hRead n r (H, I)).1 (hRead n r (H, I)).2) ∧ Step F F' w w' := by
  obtain ⟨S, vl, vr, vt, hc, hs, rfl⟩ := h
  have h1 := ht.lr
  have h2 := ht.lt
  by_cases hp : posOf (isSt r (nowOf H.l)) H.l < 0
  · have e : hRead n r (H, I) = (H, I) := by simp [hRead, hp]
    rw [e]
    refine (hread_none q p S vl vr vt H _ _ n what r (nowOf H.l) on w hc hs rfl hp (read_frs_none hp)).mono ?_
    rintro e w' ⟨T, rfl, a, b, c⟩
    exact ⟨rfl, _, ⟨T, vl, vr, vt, a, b, rfl⟩, c.side⟩
  · obtain ⟨k, ek, hk⟩ := posOf_lt (Int.not_lt.1 hp)
    have e : hRead n r (H, I) = ({ H with reads := H.reads ++ [⟨n, k⟩], touches := H.touches ++ [⟨n, r, nowOf H.l⟩] }, readI H I k) := by
      unfold hRead; dsimp only; rw [if_neg hp, ek]; rfl
    rw [e]
    refine (hread_some q p S vl vr vt H _ _ n what r (nowOf H.l) on w hc hs (by omega) (by omega) rfl (Int.not_lt.1 hp) (read_frs ht k ek)).mono ?_
    rintro e w' ⟨T, vr', vt', rfl, a, b, c⟩
    rw [ek] at a
    exact ⟨rfl, _, ⟨T, vl, vr', vt', a, b, rfl⟩, c⟩

theorem use_HH (what r : Int) (on : Bool) (h : HH w q p F H (frsOf H I)) (ht : Tm H I n) (hn : n ≤ 200) :
    Calls Try.prog 38 #[.pointer (some ⟨q, 0, none⟩), .int .i64 n, .agg #[.int .i64 what, .int .i64 r, .bool on]] w fun e w' =>
      e = .returned (.bool true) ∧ ∃ F', HH w' q p F' (hUse n r (H, I)).1 (frsOf (hUse n r (H, I)).1 (hUse n r (H, I)).2) ∧ Step F F' w w' := by
  obtain ⟨S, vl, vr, vt, hc, hs, rfl⟩ := h
  have h1 := ht.ll
  have h2 := ht.lt
  by_cases hp : H.l.length = 0
  · have e : hUse n r (H, I) = (H, I) := by simp [hUse, hp]
    rw [e]
    refine (huse_none q p S vl vr vt H _ _ n what r (nowOf H.l) on w hc hs rfl hp (use_frs_nil hp (Int.le_refl _))).mono ?_
    rintro e w' ⟨T, rfl, a, b, c⟩
    exact ⟨rfl, _, ⟨T, vl, vr, vt, a, b, rfl⟩, c.side⟩
  · have e : hUse n r (H, I) = ({ H with touches := H.touches ++ [⟨n, r, nowOf H.l⟩] }, I) := by simp [hUse, hp]
    rw [e]
    refine (huse_some q p S vl vr vt H _ _ n what r (nowOf H.l) on w hc hs rfl (by omega) (by omega) (by omega) (use_frs ht (Int.le_refl _))).mono ?_
    rintro e w' ⟨T, vt', rfl, a, b, c⟩
    exact ⟨rfl, _, ⟨T, vl, vr, vt', a, b, rfl⟩, c⟩
end

set_option maxRecDepth 100000 in
set_option maxHeartbeats 1600000 in
theorem do_any (q p : Nat) (F : Nat → Prop) (H : Hist) (I : List (List Int)) (n : Nat) (x : Stp) (w : World) (h : HH w q p F H (frsOf H I)) (ht : Tm H I n) (hn : n ≤ 200) :
    Calls Try.prog 10 #[.pointer (some ⟨q, 0, none⟩), .int .i64 n, .agg #[.int .i64 x.what, .int .i64 x.rule, .bool x.on]] w fun e w' =>
      e = .returned (.bool true) ∧ ∃ F', HH w' q p F' (hdo n x (H, I)).1 (frsOf (hdo n x (H, I)).1 (hdo n x (H, I)).2) ∧ Step F F' w w' := by
  obtain ⟨what, r, on⟩ := x
  have hb := (ext_refl w).alloc (Nat.le_refl _) (.cells #[.int .i64 what, .int .i64 r, .bool on] 35)
  have HB := Lib.hid hb
  have h' := h.ext hb
  have HP := Lib.hid (fun W => pick_any what 4 W (by omega) (by omega))
  have HN := Lib.hid (enter_HH what r on h' ht hn)
  have HL := Lib.hid (leave_HH h' ht hn)
  have HR := Lib.hid (read_HH what r on h' ht hn)
  have HU := Lib.hid (use_HH what r on h' ht hn)
  have hrange := pick_range what 4 (by omega)
  have HD := Lib.hid (show hdo n ⟨what, r, on⟩ (H, I) = if pick what 4 = 0 then hEnter n r on (H, I) else if pick what 4 = 1 then hLeave (H, I) else if pick what 4 = 2 then hRead n r (H, I) else hUse n r (H, I) from rfl)
  generalize pick what 4 = c at *
  clear h h' ht hb
  have hc : c = 0 ∨ c = 1 ∨ c = 2 ∨ c = 3 := by omega
  clear hrange
  rcases hc with rfl | rfl | rfl | rfl
  all_goals
    go_enter Try.func10, Try.ntmps10
    go_wp2_with (first
      | (go_at_call 35; refine (HP.out _).mono ?_; rintro e w1 ⟨rfl, rfl⟩)
      | (go_at_call 36; refine HN.out.mono ?_; rintro e w2 ⟨rfl, F', hh, st⟩)
      | (go_at_call 15; refine HL.out.mono ?_; rintro e w2 ⟨rfl, F', hh, st⟩)
      | (go_at_call 37; refine HR.out.mono ?_; rintro e w2 ⟨rfl, F', hh, st⟩)
      | (go_at_call 38; refine HU.out.mono ?_; rintro e w2 ⟨rfl, F', hh, st⟩))
    go_ret
    refine ⟨rfl, F', ?_, (Step.ext HB.out).trans st⟩
    rw [HD.out]
    simpa using hh
end Go.Proofs.Ytjmidomcgaijjaa
