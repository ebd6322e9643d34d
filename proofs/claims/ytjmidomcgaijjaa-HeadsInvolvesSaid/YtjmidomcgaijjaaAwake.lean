/- The chapter's example. -/
import Derived.Test.YtjmidomcgaijjaaUni
namespace Go.Proofs.Ytjmidomcgaijjaa
set_option linter.unusedVariables false
open Go.RowKit

/-- all since w0 is new: what was there stays -/
def Car (w0 : World) (S : Nat → Prop) (w : World) : Prop := Below w0.heap.size w0 w ∧ ∀ k, S k → w0.heap.size ≤ k
theorem Car.step {w0 w w' : World} {S T : Nat → Prop} (h : Car w0 S w) (st : Step S T w w') : Car w0 T w' :=
  ⟨h.1.trans (st.upd.below h.1.size (fun k hk hs => by have := h.2 k hs; omega)), fun k hk => by
    rcases st.sub k hk with h1 | h1
    · exact h.2 k h1
    · exact Nat.le_trans h.1.size h1⟩
theorem Own.head {S : Nat → Prop} {w : World} {v : Value} {l : List Int} (h : Own S w v l) (h0 : 0 < l.length) : ∃ g c, v = .slice (some ⟨g, 0, none⟩) l.length c ∧ l.length ≤ c ∧ c ≤ maxLen := by
  obtain ⟨⟨hl, h⟩, _⟩ := h
  rcases h with ⟨h1, _⟩ | ⟨g, cap, cur, rfl, hb, hg, h1, h2, h3, h4⟩
  · omega
  · exact ⟨g, cap, rfl, h1, h2⟩
theorem Own.at {S : Nat → Prop} {w : World} {A : Option Addr} {n c : Nat} {l : List Int} (h : Own S w (.slice A n c) l) (h0 : 0 < l.length) :
    ∃ g, A = some ⟨g, 0, none⟩ ∧ g < w.heap.size ∧ n ≤ c ∧ c ≤ maxLen ∧ ∀ k (hk : k < l.length), w.cell? ⟨g, k, none⟩ = some (.int .i64 l[k]) := by
  obtain ⟨g, c', e, h1, h2⟩ := h.head h0
  injection e with e1 e2 e3
  subst e1 e2 e3
  obtain ⟨A, c', e, h1', h2', h3, h4⟩ := h.ints.form
  obtain ⟨b, o, rfl, hc⟩ := h4 (by omega)
  injection e with e1 e2 e3
  injection e1 with e1
  injection e1 with e1 e4
  subst e1 e4
  refine ⟨g, rfl, (h.1.lt g rfl).2, h1, h2, fun k hk => ?_⟩
  have := hc k hk
  simpa [List.getD, hk] using this
theorem ints_at (w : World) (t : TypeId) (l : List Int) (b n : Nat) (hb : b = w.heap.size) (hn : n = l.length) (hl : l.length ≤ 1000000) : Ints (w.alloc (.cells (l.map (Value.int .i64)).toArray t)) (.slice (some ⟨b, 0, none⟩) n n) l := by
  subst hb hn
  exact ⟨_, _, rfl, Nat.le_refl _, by unfold maxLen; omega, by simp, by simp, fun _ => ⟨_, rfl, cells_newA _ _ _ _ rfl _ rfl⟩⟩
theorem same_self {l : List Int} {va vb : Value} {w : World} (ha : Ints w va l) (hb : Ints w vb l) :
    Calls Try.prog 29 #[va, vb] w fun e w' => e = .returned (.bool true) ∧ ∃ n, w' = w.drewN n := by
  have := sameInts_any l l va vb w ha hb
  simpa using this

theorem call_to {P : Program} {f : FuncId} {args : Array Value} {w : World} {p : Nat} {a b : Int × List Fr} (e : a = b) {Q : (Nat → Prop) → World → Prop}
    (h : Calls P f args w fun e w' => ∃ T, e = .returned (.int .i64 a.1) ∧ HS w' p T a.2 ∧ Q T w') : Calls P f args w fun e w' => ∃ T, e = .returned (.int .i64 b.1) ∧ HS w' p T b.2 ∧ Q T w' := by
  subst e; exact h

def exL1 : List Fr := [⟨1, 0, [1], [], false⟩]
def exL2 : List Fr := [⟨1, 0, [1, 2], [], false⟩, ⟨2, 0, [2], [], false⟩]
def exL3 : List Fr := [⟨1, 0, [1, 2, 3], [], false⟩, ⟨2, 0, [2, 3], [], false⟩, ⟨3, 0, [3], [], false⟩]
def exL4 : List Fr := [⟨1, 0, [1, 2, 3], [], false⟩, ⟨2, 0, [2, 3], [3], false⟩]
abbrev exX : Fr := ⟨3, 0, [2, 3], [], true⟩
abbrev exZ : Fr := ⟨1, 0, [1, 2, 3], [2], false⟩
abbrev exY : Fr := ⟨2, 0, [1, 2, 3], [3], true⟩
theorem ex1 : enterA [] 1 0 = (0, exL1) := rfl
theorem ex2 : enterA exL1 2 0 = (0, exL2) := rfl
theorem ex3 : enterA exL2 3 0 = (0, exL3) := rfl
theorem ex4 : readB exL3 2 0 = (0, exL4 ++ [exX]) := rfl
theorem ex5 : readB exL4 1 0 = (0, ([] ++ [exZ]) ++ [exY]) := rfl
theorem ex6 : involvedOf (exL4 ++ [exX]) 2 0 = [3] := rfl
theorem exFine : Fine (exL4 ++ [exX]) := by unfold Fine i64; decide
theorem exI : ∀ f ∈ [exX, exY, exZ], (∀ x ∈ f.touched, i64 x) ∧ f.touched.length ≤ 1000000 := by unfold i64; decide

theorem leave_fr (S : Nat → Prop) (l : List Fr) (r pl : Int) (ts is : List Int) (tb : Bool) (n p : Nat) (w : World) (hs : HS w p S (l ++ [⟨r, pl, ts, is, tb⟩])) (hi : ∀ x ∈ ts, i64 x) (hn : ts.length ≤ 1000000) (hl : ts.length = n) :
    Calls Try.prog 27 #[.pointer (some ⟨p, 0, none⟩)] w fun e w' => ∃ T A c, e = .returned (.tuple #[.agg #[.int .i64 r, .int .i64 pl, .slice A n c, .bool tb], .int .i64 0]) ∧
      Own T w' (.slice A n c) ts ∧ HS w' p T l ∧ Step S T w w' := by
  subst hl
  refine (leave_uni S l _ p w hs hi hn).mono ?_
  rintro e w' ⟨T, u, rfl, ho, ⟨A, c, rfl⟩, h, st⟩
  exact ⟨T, A, c, rfl, ho, h, st⟩
theorem Cel.new {S : Nat → Prop} {w : World} (t : TypeId) (cs : Array Value) (hS : ∀ k, S k → k < w.heap.size) : Cel S (w.alloc (.cells cs t)) w.heap.size t cs :=
  ⟨Blk.new w _ _, fun h => by have := hS _ h; omega⟩
theorem step_alloc (S : Nat → Prop) (w : World) (o : Obj) : Step S S w (w.alloc o) := Step.ext ((ext_refl w).alloc (Nat.le_refl _) o)

theorem step_alloc2 (S : Nat → Prop) (w : World) (o o2 : Obj) : Step S S w ((w.alloc o).alloc o2) := (step_alloc S w o).trans (step_alloc S _ o2)
theorem Step.drewN {S T : Nat → Prop} {w w' : World} (h : Step S T w w') (n : Nat) : Step S T w (w'.drewN n) := ⟨h.upd.drewN n, h.sub⟩

set_option maxRecDepth 100000 in
set_option maxHeartbeats 1600000 in
theorem awake_any (w : World) :
    Calls Try.prog 8 #[] w fun e w' => e = .returned (.bool true) ∧ Below w.heap.size w w' := by
  have H1 := Lib.hid fun T p W (h : HS W p T []) => call_to (Q := fun T' W' => Step T T' W W') ex1 (enter_uni T [] 1 0 p W h (by decide))
  have H2 := Lib.hid fun T p W (h : HS W p T exL1) => call_to (Q := fun T' W' => Step T T' W W') ex2 (enter_uni T exL1 2 0 p W h (by decide))
  have H3 := Lib.hid fun T p W (h : HS W p T exL2) => call_to (Q := fun T' W' => Step T T' W W') ex3 (enter_uni T exL2 3 0 p W h (by decide))
  have H4 := Lib.hid fun T p W (h : HS W p T exL3) => call_to (Q := fun T' W' => Step T T' W W') ex4 (read_uni T exL3 2 0 p W h)
  have H5 := Lib.hid fun T p W (h : HS W p T exL4) => call_to (Q := fun T' W' => Step T T' W W') ex5 (read_uni T exL4 1 0 p W h)
  have H6 := Lib.hid fun T p W (h : HS W p T (exL4 ++ [exX])) => ex6 ▸ involved_uni T (exL4 ++ [exX]) 2 0 p W h exFine
  have HX := Lib.hid fun T p W (h : HS W p T (exL4 ++ [exX])) => leave_fr T exL4 3 0 [2, 3] [] true 2 p W h (exI exX (by simp)).1 (exI exX (by simp)).2 rfl
  have HY := Lib.hid fun T p W (h : HS W p T (([] ++ [exZ]) ++ [exY])) => leave_fr T ([] ++ [exZ]) 2 0 [1, 2, 3] [3] true 3 p W h (exI exY (by simp)).1 (exI exY (by simp)).2 rfl
  have HZ := Lib.hid fun T p W (h : HS W p T ([] ++ [exZ])) => leave_fr T [] 1 0 [1, 2, 3] [2] false 3 p W h (exI exZ (by simp)).1 (exI exZ (by simp)).2 rfl
  go_enter Try.func8, Try.ntmps8

  go_wp2_with (first
    | (go_at_call 9; refine (new_uni _).mono ?_; rintro e w1 ⟨p, T1, rfl, hs1, ht1, hb1⟩; have hc1 := Lib.hid (show Car w T1 w1 from ⟨hb1, ht1⟩); clear ht1 hb1)
    | (go_at_call 21; refine (H1.out T1 p w1 hs1).mono ?_; rintro e w2 ⟨T2, rfl, hs2, st2⟩; have hc2 := Lib.hid (hc1.out.step st2); clear hs1 hc1 st2)
    | (go_at_call 21; refine (H2.out T2 p w2 hs2).mono ?_; rintro e w3 ⟨T3, rfl, hs3, st3⟩; have hc3 := Lib.hid (hc2.out.step st3); clear hs2 hc2 st3)
    | (go_at_call 21; refine (H3.out T3 p w3 hs3).mono ?_; rintro e w4 ⟨T4, rfl, hs4, st4⟩; have hc4 := Lib.hid (hc3.out.step st4); clear hs3 hc3 st4)
    | (go_at_call 23; refine (H4.out T4 p w4 hs4).mono ?_; rintro e w5 ⟨T5, rfl, hs5, st5⟩; have hc5 := Lib.hid (hc4.out.step st5); clear hs4 hc4 st5)
    | (go_at_call 11; refine (H6.out T5 p w5 hs5).mono ?_; rintro e w6 ⟨u, rfl, ⟨A, c, rfl⟩, ho, hb6⟩; have hs6 := hs5.ext hb6; have i6 := Lib.hid (Own.of_new ho hs5.slt); have hc6 := Lib.hid (hc5.out.step (Step.ext hb6)); clear hs5 ho hb6 hc5)
    | (go_at_call 27; refine (HX.out T5 p w6 hs6).mono ?_; rintro e w7 ⟨T7, Ax, cx, rfl, ho, hs7, st7⟩; have i7 := Lib.hid (i6.out.step st7); have hc7 := Lib.hid (hc6.out.step st7); have x7 := Lib.hid ho; clear hs6 i6 hc6 st7 ho)
    | (go_at_call 23; refine (H5.out T7 p _ (hs7.ext ((ext_refl w7).alloc (Nat.le_refl _) _))).mono ?_; rintro e w8 ⟨T8, rfl, hs8, st8⟩; have st8' := (step_alloc T7 w7 _).trans st8; have i8 := Lib.hid (i7.out.step st8'); have x8 := Lib.hid (x7.out.step st8'); have X8 := Lib.hid ((Cel.new _ _ hs7.slt).step st8); have hc8 := Lib.hid (hc7.out.step st8'); generalize w7.heap.size = bx at *; clear hs7 i7 x7 hc7 st8 st8')
    | (go_at_call 27; refine (HY.out T8 p w8 hs8).mono ?_; rintro e w9 ⟨T9, Ay, cy, rfl, ho, hs9, st9⟩; have i9 := Lib.hid (i8.out.step st9); have x9 := Lib.hid (x8.out.step st9); have X9 := Lib.hid (X8.out.step st9); have hc9 := Lib.hid (hc8.out.step st9); have y9 := Lib.hid ho; clear hs8 i8 x8 X8 hc8 st9 ho)
    | (go_at_call 27; refine (HZ.out T9 p _ (hs9.ext ((ext_refl w9).alloc (Nat.le_refl _) _))).mono ?_; rintro e w10 ⟨T10, Az, cz, rfl, ho, hs10, st10⟩; have st10' := (step_alloc T9 w9 _).trans st10; have i10 := Lib.hid (i9.out.step st10'); have x10 := Lib.hid (x9.out.step st10'); have X10 := Lib.hid (X9.out.step st10'); have y10 := Lib.hid (y9.out.step st10'); have Y10 := Lib.hid ((Cel.new _ _ hs9.slt).step st10); have hc10 := Lib.hid (hc9.out.step st10'); have z10 := Lib.hid ho; generalize w9.heap.size = bY at *; obtain ⟨gi, rfl, hgi, hi1, hi2, hic⟩ := i10.out.at (Nat.zero_lt_succ _); have ei : w10.cell? ⟨gi, 0, none⟩ = some (.int .i64 3) := hic 0 (Nat.zero_lt_succ _); have hi3 : 1 ≤ c := hi1; have hi4 : (1 : Int) ≤ (c : Int) := Int.ofNat_le.2 hi1; clear hi1 hi2; have lx := X10.out.1.lt; have ly := Y10.out.1.lt; have fx2 : w10.cell? ⟨bx, 2, none⟩ = some (.slice Ax 2 cx) := X10.out.1.cell 2; have fx3 : w10.cell? ⟨bx, 3, none⟩ = some (.bool true) := X10.out.1.cell 3; have fy2 : w10.cell? ⟨bY, 2, none⟩ = some (.slice Ay 3 cy) := Y10.out.1.cell 2; have fy3 : w10.cell? ⟨bY, 3, none⟩ = some (.bool true) := Y10.out.1.cell 3; have hZ := Lib.hid hs10.slt; clear i9 x9 X9 y9 hc9 st10 st10' ho hs9 hic hs10 i10)
    | (go_at_call 29; refine (same_self (x10.out.step (step_alloc2 T10 w10 _ _)).ints (ints_at _ _ [2, 3] _ _ (by simp) rfl (by decide))).mono ?_; rintro e w11 ⟨rfl, n11, hW⟩; have st11 : Step T10 T10 w10 w11 := hW ▸ (step_alloc2 T10 w10 _ _).drewN n11; have Z11 : Cel T10 w11 w10.heap.size 65 _ := hW ▸ ((Cel.new _ _ hZ.out).step (step_alloc T10 _ _)).step ((Step.refl T10 _).drewN n11); have lz := Z11.1.lt; have fz2 : w11.cell? ⟨w10.heap.size, 2, none⟩ = some (.slice Az 3 cz) := Z11.1.cell 2; have fy2 : w11.cell? ⟨bY, 2, none⟩ = some (.slice Ay 3 cy) := (Y10.out.step st11).1.cell 2; have ly := (Y10.out.step st11).1.lt; have y11 := Lib.hid (y10.out.step st11); have z11 := Lib.hid (z10.out.step st11); have hc11 := Lib.hid (hc10.out.step st11); clear hW st11 x10 y10 z10 X10 Y10 hc10 lx fx2 fx3 fy3 ei hi3 hi4 hZ)
    | (go_at_call 29; refine (same_self (y11.out.step (step_alloc T10 w11 _)).ints (ints_at _ _ [1, 2, 3] _ _ rfl rfl (by decide))).mono ?_; rintro e w12 ⟨rfl, n12, hW⟩; have st12 : Step T10 T10 w11 w12 := hW ▸ (step_alloc T10 w11 _).drewN n12; have fz2 : w12.cell? ⟨w10.heap.size, 2, none⟩ = some (.slice Az 3 cz) := (Z11.step st12).1.cell 2; have z12 := Lib.hid (z11.out.step st12); have hc12 := Lib.hid (hc11.out.step st12); clear hW y11 z11 hc11 fy2 ly lz Z11)
    | (go_at_call 29; refine (same_self (z12.out.step (step_alloc T10 w12 _)).ints (ints_at _ _ [1, 2, 3] _ _ rfl rfl (by decide))).mono ?_; rintro e w13 ⟨rfl, n13, hW⟩; have st13 : Step T10 T10 w12 w13 := hW ▸ (step_alloc T10 w12 _).drewN n13; have hc13 := Lib.hid (hc12.out.step st13); clear hW z12 hc12 fz2))
  go_ret
  exact ⟨rfl, hc13.out.1⟩
end Go.Proofs.Ytjmidomcgaijjaa
