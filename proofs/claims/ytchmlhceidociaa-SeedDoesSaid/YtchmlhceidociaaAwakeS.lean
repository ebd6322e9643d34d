/- The chapter's example. -/
import Derived.Test.YtchmlhceidociaaSdF
namespace Go.Proofs.Ytchmlhceidociaa
set_option linter.unusedVariables false
set_option linter.unusedSimpArgs false
open Go.RowKit

def aw1 : List Pr := [newP 1 0]
def aw2 : List Pr := [⟨1, 0, true, 2, 1, []⟩]
theorem awBegin (S : Nat → Prop) (p : Nat) (w : World) (hs : SS w p S []) :
    Calls Try.prog 9 #[.pointer (some ⟨p, 0, none⟩), .int .i64 1, .int .i64 0] w fun e w' => ∃ T, e = .returned (.int .i64 0) ∧ SS w' p T aw1 ∧ Step S T w w' :=
  (begin_uni S [] 1 0 p w hs (by simp)).mono fun e w' ⟨T, h1, h2, h3, _⟩ => ⟨T, h1, h2, h3⟩
theorem awGrow (S : Nat → Prop) (p : Nat) (w : World) (hs : SS w p S aw1) :
    Calls Try.prog 11 #[.pointer (some ⟨p, 0, none⟩), .agg #[.int .i64 2, .int .i64 1, .slice none 0 0]] w fun e w' => ∃ T, e = .returned (.int .i64 0) ∧ SS w' p T aw2 ∧ Step S T w w' :=
  (grow_uni S aw1 2 1 (.slice none 0 0) [] p w hs (RowT.nil w).twgs (by simp)).mono fun e w' ⟨T, h1, h2, h3, _⟩ => ⟨T, h1, h2, h3⟩
theorem awEnd1 (S : Nat → Prop) (p : Nat) (w : World) (hs : SS w p S aw2) :
    Calls Try.prog 13 #[.pointer (some ⟨p, 0, none⟩)] w fun e w' => ∃ T, e = .returned (.int .i64 0) ∧ SS w' p T [] ∧ Step S T w w' :=
  (end_uni S aw2 p w hs).mono fun e w' ⟨T, h1, h2, h3, _⟩ => ⟨T, h1, h2, h3⟩
theorem awEnd2 (S : Nat → Prop) (p : Nat) (w : World) (hs : SS w p S []) :
    Calls Try.prog 13 #[.pointer (some ⟨p, 0, none⟩)] w fun e w' => ∃ T, e = .returned (.int .i64 5) ∧ SS w' p T [] ∧ Step S T w w' :=
  (end_uni S [] p w hs).mono fun e w' ⟨T, h1, h2, h3, _⟩ => ⟨T, h1, h2, h3⟩
theorem awRead1 (S : Nat → Prop) (p : Nat) (w : World) (hs : SS w p S aw1) :
    Calls Try.prog 19 #[.pointer (some ⟨p, 0, none⟩), .int .i64 1, .int .i64 0, .int .i64 0] w fun e w' => ∃ A c, e = .returned (.tuple #[.agg #[.int .i64 0, .int .i64 0, .slice A 0 c], .int .i64 2]) ∧ Below w.heap.size w w' :=
  (read_uni S aw1 1 0 0 p w hs (by simp [aw1, newP])).mono fun e w' ⟨A, c, h1, _, _, h2⟩ => ⟨A, c, h1, h2⟩
theorem awRead2 (S : Nat → Prop) (p : Nat) (w : World) (hs : SS w p S aw2) :
    Calls Try.prog 19 #[.pointer (some ⟨p, 0, none⟩), .int .i64 1, .int .i64 0, .int .i64 0] w fun e w' => ∃ A c, e = .returned (.tuple #[.agg #[.int .i64 0, .int .i64 0, .slice A 0 c], .int .i64 2]) ∧ Below w.heap.size w w' :=
  (read_uni S aw2 1 0 0 p w hs (by simp [aw2])).mono fun e w' ⟨A, c, h1, _, _, h2⟩ => ⟨A, c, h1, h2⟩
theorem awRead3 (S : Nat → Prop) (p : Nat) (w : World) (hs : SS w p S aw2) :
    Calls Try.prog 19 #[.pointer (some ⟨p, 0, none⟩), .int .i64 1, .int .i64 0, .int .i64 1] w fun e w' => ∃ A c, e = .returned (.tuple #[.agg #[.int .i64 2, .int .i64 1, .slice A 0 c], .int .i64 3]) ∧ Below w.heap.size w w' :=
  (read_uni S aw2 1 0 1 p w hs (by simp [aw2])).mono fun e w' ⟨A, c, h1, _, _, h2⟩ => ⟨A, c, h1, h2⟩
theorem awRead4 (S : Nat → Prop) (p : Nat) (w : World) (hs : SS w p S aw2) :
    Calls Try.prog 19 #[.pointer (some ⟨p, 0, none⟩), .int .i64 1, .int .i64 1, .int .i64 1] w fun e w' => ∃ A c, e = .returned (.tuple #[.agg #[.int .i64 0, .int .i64 0, .slice A 0 c], .int .i64 1]) ∧ Below w.heap.size w w' :=
  (read_uni S aw2 1 1 1 p w hs (by simp [aw2])).mono fun e w' ⟨A, c, h1, _, _, h2⟩ => ⟨A, c, h1, h2⟩

set_option maxRecDepth 100000 in
set_option maxHeartbeats 1600000 in
theorem awake_any (w : World) : Calls Try.prog 5 #[] w fun e w' => e = .returned (.bool true) ∧ Below w.heap.size w w' := by
  go_enter Try.func5, Try.ntmps5
  have tok1 : True := trivial
  go_wp2_with (first
    | (go_at_call 6; refine (new_uni w).mono ?_; rintro e w1 ⟨p, S0, rfl, hs0, hn0, hb0⟩
       have H0 := Lib.hid (And.intro hs0 (And.intro hb0 hn0))
       clear hs0 hn0 hb0)
    | (go_at_call 9; refine (awBegin S0 p _ H0.out.1).mono ?_; rintro e w2 ⟨S1, rfl, hs1, st1⟩
       have H1 := Lib.hid (And.intro hs1 (Car.step (w0 := w) ⟨H0.out.2.1, H0.out.2.2⟩ st1))
       clear hs1 st1)
    | (go_at_call 19; (with_reducible refine (awRead1 S1 p w2 H1.out.1).mono ?_); rintro e w3 ⟨A3, c3, rfl, hb3⟩
       have H3 := Lib.hid (ext_trans hb3 ((ext_refl w3).alloc (Nat.le_refl _) (.cells #[.int .i64 0, .int .i64 0, .slice A3 0 c3] 42)))
       have H3' := Lib.hid (And.intro (H1.out.1.ext H3.out) (H1.out.2.step (Step.ext H3.out)))
       clear hb3 H1)
    | (go_at_call 11; refine (awGrow S1 p _ H3'.out.1).mono ?_; rintro e w4 ⟨S4, rfl, hs4, st4⟩
       have H4 := Lib.hid (And.intro hs4 (H3'.out.2.step st4))
       clear hs4 st4)
    | (go_at_call 19; (with_reducible refine (awRead2 S4 p w4 H4.out.1).mono ?_); rintro e w5 ⟨A5, c5, rfl, hb5⟩
       have H5 := Lib.hid (ext_trans hb5 ((ext_refl w5).alloc (Nat.le_refl _) (.cells #[.int .i64 0, .int .i64 0, .slice A5 0 c5] 42)))
       have H5' := Lib.hid (And.intro (H4.out.1.ext H5.out) (H4.out.2.step (Step.ext H5.out)))
       clear hb5 H4)
    | (go_at_call 19; (with_reducible refine (awRead3 S4 p _ H5'.out.1).mono ?_); rintro e w6 ⟨A6, c6, rfl, hb6⟩
       have H6 := Lib.hid (ext_trans hb6 ((ext_refl w6).alloc (Nat.le_refl _) (.cells #[.int .i64 2, .int .i64 1, .slice A6 0 c6] 42)))
       have H6' := Lib.hid (And.intro (H5'.out.1.ext H6.out) (H5'.out.2.step (Step.ext H6.out)))
       have HX := Lib.hid (Blk.new w6 42 #[.int .i64 2, .int .i64 1, .slice A6 0 c6])
       clear hb6 H5')
    | (go_at_call 19; (with_reducible refine (awRead4 S4 p _ H6'.out.1).mono ?_); rintro e w7 ⟨A7, c7, rfl, hb7⟩
       have H7 := Lib.hid (ext_trans hb7 ((ext_refl w7).alloc (Nat.le_refl _) (.cells #[.int .i64 0, .int .i64 0, .slice A7 0 c7] 42)))
       have H7' := Lib.hid (And.intro (H6'.out.1.ext H7.out) (H6'.out.2.step (Step.ext H7.out)))
       have hx := HX.out.ext hb7
       have x0 := hx.cell 0
       have x1 := hx.cell 1
       have xl := hx.lt
       clear hb7 H6' hx)
    | (go_at_call 13; (with_reducible refine (awEnd1 S4 p _ H7'.out.1).mono ?_); rintro e w8 ⟨S8, rfl, hs8, st8⟩
       have H8 := Lib.hid (And.intro hs8 (H7'.out.2.step st8))
       clear hs8 st8 H7')
    | (go_at_call 13; (with_reducible refine (awEnd2 S8 p _ H8.out.1).mono ?_); rintro e w9 ⟨S9, rfl, hs9, st9⟩
       have H9 := Lib.hid (H8.out.2.step st9)
       clear hs9 st9 H8))
  go_ret
  exact ⟨rfl, H9.out.1⟩
end Go.Proofs.Ytchmlhceidociaa
