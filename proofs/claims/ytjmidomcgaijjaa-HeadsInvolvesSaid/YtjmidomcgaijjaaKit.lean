/- The kit's functions on rows of numbers: picked numbers, marks, what is the same, what is lent, kept, written over. -/
import Derived.Test.YtjmidomcgaijjaaWalk1
import Derived.Deep.QuietTactic
import Derived.BigQuiet
namespace Go.Proofs.Ytjmidomcgaijjaa
set_option linter.unusedVariables false
open Go.RowKit

def pick (x n : Int) : Int := if x.tmod n < 0 then x.tmod n + n else x.tmod n
theorem pick_range (x n : Int) (h : 1 ≤ n) : 0 ≤ pick x n ∧ pick x n < n := by
  unfold pick
  have h1 : x.tmod n < n := Int.tmod_lt_of_pos x (by omega)
  have h2 : -n < x.tmod n := by
    have := Int.tmod_lt_of_pos (-x) (show 0 < n by omega)
    rw [Int.neg_tmod] at this; omega
  split <;> omega
set_option maxHeartbeats 400000 in
theorem pick_any (x n : Int) (w : World) (h1 : 1 ≤ n) (h2 : n ≤ 9223372036854775807) :
    Calls Try.prog 35 #[.int .i64 x, .int .i64 n] w fun e w' => e = .returned (.int .i64 (pick x n)) ∧ w = w' := by
  have hr := pick_range x n h1
  have hw : x.tmod n < 0 → wrap64 (x.tmod n + n) = pick x n := by
    intro h
    have e : pick x n = x.tmod n + n := by unfold pick; rw [if_pos h]
    rw [← e]
    unfold wrap64; omega
  have HW := Lib.hid hw
  have HR := Lib.hid hr
  clear hw hr
  go_enter Try.func35, Try.ntmps35
  go_wp2
  all_goals go_ret
  · exact ⟨ret_int (HW.out ‹_›), rfl⟩
  · exact ⟨ret_int (by unfold pick; rw [if_neg (by omega)]), rfl⟩

def markOf (k i : Int) : Int := 1000003 * (k + 7) + i
set_option maxHeartbeats 400000 in
theorem mark_any (k i : Int) (w : World) (hk : 0 ≤ k) (hk' : k ≤ 9) (hi : 0 ≤ i) (hi' : i ≤ 1000000) :
    Calls Try.prog 45 #[.int .i64 k, .int .i64 i] w fun e w' => e = .returned (.int .i64 (markOf k i)) ∧ w = w' := by
  go_enter Try.func45, Try.ntmps45
  go_wp2
  go_ret
  exact ⟨ret_int rfl, rfl⟩

set_option maxRecDepth 100000 in
set_option maxHeartbeats 400000 in
theorem sameInts_any (a b : List Int) (va vb : Value) (w : World) (ha : Ints w va a) (hb : Ints w vb b) :
    Calls Try.prog 29 #[va, vb] w fun e w' => e = .returned (.bool (decide (a = b))) ∧ ∃ n, w' = w.drewN n := by
  obtain ⟨A, ca, rfl, hca, hma, _, hcella⟩ := ha.form
  obtain ⟨B, cb, rfl, hcb, hmb, _, hcellb⟩ := hb.form
  unfold maxLen at hma hmb
  by_cases hlen : a.length = b.length
  · have hl : ((a.length : Int) == (b.length : Int)) = true := by simp [hlen]
    have hl' : ((a.length : Int) != (b.length : Int)) = false := by simp [hlen]
    have HL := Lib.hid hlen
    have hlb : a.length ≤ b.length := by omega
    clear hlen
    go_enter Try.func29, Try.ntmps29
    go_wp2
    go_loopw [5] (fun i wr => ∃ k : Nat, k ≤ a.length ∧ i = .int .i64 k ∧ (∃ n, wr = w.drewN n) ∧ a.take k = b.take k) (fun i _ => a.length - (intOf i).toNat)
    case atStart => exact ⟨0, Nat.zero_le _, rfl, ⟨0, rfl⟩, rfl⟩
    case round =>
      obtain ⟨k, hk, rfl, ⟨n, rfl⟩, heq⟩ := hrel
      have HE := Lib.hid heq
      clear heq
      by_cases hlt : k < a.length
      · obtain ⟨b1, o1, rfl, hc1⟩ := hcella (by omega)
        obtain ⟨b2, o2, rfl, hc2⟩ := hcellb (by omega)
        have g1 := hc1 k hlt
        have g2 := hc2 k (by omega)
        have hx : a.getD k 0 = a[k] := by simp [List.getD, hlt]
        have hy : b.getD k 0 = b[k]'(by omega) := by simp [List.getD, show k < b.length by omega]
        rw [hx] at g1; rw [hy] at g2
        clear hx hy hc1 hc2 hcella hcellb ha hb
        have hkb : k < b.length := by omega
        have hta : a.take (k + 1) = a.take k ++ [a[k]] := List.take_succ_eq_append_getElem hlt
        have htb : b.take (k + 1) = b.take k ++ [b[k]] := List.take_succ_eq_append_getElem hkb
        have hne : a[k] ≠ b[k] → a ≠ b := by
          intro h e; subst e; exact h rfl
        have HA := Lib.hid hta
        have HB := Lib.hid htb
        have HN := Lib.hid hne
        clear hta htb hne
        have hlk : (k : Int) < (a.length : Int) := by omega
        have hlk2 : (k : Int) < (b.length : Int) := by omega
        generalize a[k] = x at *
        generalize b[k] = y at *
        by_cases hxy : x = y
        · have h1 : (x == y) = true := by simp [hxy]
          have h2 : (x != y) = false := by simp [hxy]
          have HXY := Lib.hid hxy
          clear hxy
          go_wp2
          go_quiet (fail)
          go_wp2
          go_roundw
          case rel => exact ⟨k + 1, by omega, by go_num, ⟨_, rfl⟩, by rw [HA.out, HB.out, HE.out, HXY.out]⟩
          case measure => simp [intOf]; omega
        · have h1 : (x == y) = false := by simp [hxy]
          have h2 : (x != y) = true := by simp [hxy]
          have HXY := Lib.hid hxy
          clear hxy
          go_wp2
          go_quiet (fail)
          go_wp2
          go_ret
          exact ⟨ret_bool (by simp [HN.out HXY.out]), _, World.drewN_drewN _ _ _⟩
      · have hkl : k = a.length := by omega
        go_wp2
        go_ret
        refine ⟨ret_bool ?_, n, rfl⟩
        have h1 : a.take k = a := List.take_of_length_le (by omega)
        have h2 : b.take k = b := List.take_of_length_le (by have := HL.out; omega)
        have := HE.out
        rw [h1, h2] at this
        simp [this]
  · have hl : ((a.length : Int) == (b.length : Int)) = false := by simp; omega
    have hl' : ((a.length : Int) != (b.length : Int)) = true := by simp; omega
    have hne : a ≠ b := fun e => hlen (by rw [e])
    have HN := Lib.hid hne
    clear hne hlen
    go_enter Try.func29, Try.ntmps29
    go_wp2
    go_ret
    exact ⟨ret_bool (by simp [HN.out]), 0, rfl⟩

theorem cells_new1 (w : World) (t : TypeId) (v : Value) : ∀ j u, [v][j]? = some u → (w.alloc (.cells #[v] t)).cell? ((⟨w.heap.size, 0, none⟩ : Addr).add j) = some u := by
  intro j u hu
  rw [Addr.add_lit, Nat.zero_add, (Blk.new w t #[v]).cell]
  simpa using hu

/-- the marks behind a list that is lent -/
def marks (k : Int) : List Int := (List.range 12).map fun i => markOf k (i : Nat)
/-- v is the list l, lent: a row of its own, with the marks in its spare room -/
def Lent (w : World) (v : Value) (g : Nat) (l : List Int) : Prop := v = .slice (some ⟨g, 0, none⟩) l.length (l.length + 12) ∧ Blk w g 3 ((l ++ marks 1).map (Value.int .i64)).toArray

theorem Lent.ints {w : World} {v : Value} {g : Nat} {l : List Int} (h : Lent w v g l) (hl : l.length ≤ 1000000) : Ints w v l := by
  obtain ⟨rfl, hb⟩ := h
  refine ⟨_, _, rfl, by omega, by unfold maxLen; omega, by simp, by simp, fun _ => ⟨_, rfl, fun j u hu => ?_⟩⟩
  rw [show (⟨g, 0, none⟩ : Addr).add j = ⟨g, j, none⟩ by rw [Addr.add_lit]; simp, hb.cell]
  have hj : j < l.length := by have := (List.getElem?_eq_some_iff.1 hu).1; simpa using this
  simp [List.getElem?_append_left, hj] at hu ⊢
  exact hu

set_option maxRecDepth 100000 in
set_option maxHeartbeats 400000 in
theorem lentInts_any (l : List Int) (v : Value) (w : World) (hl : Ints w v l) (hn : l.length ≤ 1000000) :
    Calls Try.prog 20 #[v] w fun e w' => ∃ u, e = .returned u ∧ Lent w' u w.heap.size l ∧ Below w.heap.size w w' := by
  obtain ⟨A, c, rfl, hc, hm, hnc, hcells⟩ := hl.form
  unfold maxLen at hm
  obtain ⟨i0, hi, hz0, hz1, hz2⟩ := info_parts (P := Try.prog) (e := 3) (z := .int .i64 0) (size := 1) (bytes := 8) (by kernel_rfl)
  have hcl : ∀ ad, A = some ad → ∀ j u, (l.map (Value.int .i64))[j]? = some u → w.cell? (ad.add j) = some u := by
    rintro ad rfl j u hu
    have hj : j < l.length := by have := (List.getElem?_eq_some_iff.1 hu).1; simpa using this
    obtain ⟨b, o, e, hcell⟩ := hcells (by omega)
    cases e
    rw [Addr.add_lit, hcell j hj]
    simp [List.getD, hj] at hu ⊢
    exact hu
  have hnone : A = none → l.length = 0 ∧ c = 0 := by
    intro h
    have := hnc h
    exact ⟨by omega, this⟩
  go_enter Try.func20, Try.ntmps20
  have hlen : ((l.length : Int) + 12) = ((l.length + 12 : Nat) : Int) := by omega
  have HLEN := Lib.hid hlen
  clear hlen
  have HCL := Lib.hid hcl
  have HNO := Lib.hid hnone
  clear hcl hnone hcells hnc hl
  go_wp2_with (first | (at_make; (refine wpList_make_own _ rfl _ _ 38 rfl w.heap.size 3 i0 (.int .i64 0) 1 Try.underlying38 hi hz0 hz1 _ _ _ (l.length + 12) rfl rfl HLEN.out (by rw [hz2]; omega) (by unfold maxLen; omega) (Nat.le_refl _) ?_); intro w1 hown hgrow) | (at_builtin; go_loud (refine wpList_append_fits_any _ rfl _ _ 38 rfl w.heap.size 3 i0 1 Try.underlying38 hi hz1 w.heap.size 0 (l.length + 12) [] rfl hown A l.length c (l.map (Value.int .i64)) rfl (by simp) HNO.out (fun ad had j u hu => (World.cell?_of_block (hgrow.block _ (World.block_lt_of_cell? w _ (HCL.out ad had j u hu)) (by simp))).trans (HCL.out ad had j u hu)) (ints_oneCell _ _) (by omega) ?_); intro w2 hown2 hgrow2))
  simp only [Nat.zero_add, List.nil_append] at hown2
  have hB2 : Below w.heap.size w w2 := ((Below.refl _ _).grown hgrow (Nat.le_refl _) (by simp)).grown hgrow2 hgrow.size (by simp)
  clear hgrow hgrow2 hown HCL HNO
  go_loopw [3, 4] (fun v i wr => ∃ k : Nat, k ≤ 12 ∧ i = .int .i64 k ∧ v = .slice (some ⟨w.heap.size, 0, none⟩) (l.length + k) (l.length + 12) ∧
      wr.ownsRow w.heap.size 3 1 (.slice (some ⟨w.heap.size, 0, none⟩) (l.length + k) (l.length + 12)) (l.length + k) ((l ++ (marks 1).take k).map (Value.int .i64)) ∧ Below w.heap.size w wr)
    (fun _ i _ => 12 - (intOf i).toNat)
  case atStart => exact ⟨0, Nat.zero_le _, rfl, rfl, by simpa using hown2, hB2⟩
  case round =>
    obtain ⟨k, hk, rfl, rfl, hown, hB⟩ := hrel
    by_cases hlt : k < 12
    · have hz : w.heap.size ≤ wr.heap.size := hB.size
      go_wp2_with (first
        | (go_at_call 45; refine (mark_any 1 _ _ (by omega) (by omega) (by omega) (by omega)).mono ?_; rintro e w' ⟨rfl, rfl⟩)
        | (at_builtin; (refine wpList_append_fits _ rfl _ _ 38 rfl w.heap.size 3 i0 1 Try.underlying38 hi hz1 w.heap.size (l.length + k) (l.length + 12) _ rfl (hown.alloc _) ⟨wr.heap.size, 0, none⟩ 1 1 [.int .i64 (markOf 1 k)] rfl rfl (cells_new1 _ _ _) (by simp [Value.oneCell']) (by omega) ?_); intro w3 hown3 hgrow3))
      go_roundw
      case rel =>
        refine ⟨k + 1, by omega, by go_num, rfl, ?_, (hB.alloc hz _).grown hgrow3 (by simp; omega) (by simp)⟩
        have e : (marks 1).take (k + 1) = (marks 1).take k ++ [markOf 1 k] := by
          rw [List.take_succ_eq_append_getElem (by simpa [marks] using hlt)]
          simp [marks]
        rw [e]
        simpa [Nat.add_assoc] using hown3
      case measure => simp [intOf]; omega
    · obtain rfl : k = 12 := by omega
      have hm12 : (marks 1).take 12 = marks 1 := rfl
      rw [hm12] at hown
      have hl12 : (l.length : Int) ≤ ((l.length + 12 : Nat) : Int) := by omega
      go_wp2
      go_ret
      refine ⟨_, rfl, ⟨rfl, ?_⟩, hB⟩
      rcases hown.2 with ⟨h, _⟩ | ⟨g, cap, cur, hv, _, hg, _, _, hsz, htk⟩
      · cases h
      · cases hv
        rw [Blk, hg]
        congr 2
        rw [List.take_of_length_le (by simp [hsz])] at htk
        rw [← htk]

set_option maxRecDepth 100000 in
set_option maxHeartbeats 400000 in
theorem keptInts_any (l : List Int) (u v : Value) (g : Nat) (w : World) (hu : Lent w u g l) (hl : Ints w v l) (hn : l.length ≤ 1000000) :
    Calls Try.prog 31 #[u, v] w fun e w' => e = .returned (.bool true) ∧ ∃ n, w' = w.drewN n := by
  obtain ⟨rfl, hb⟩ := hu
  obtain ⟨A, c, rfl, hc, hm, _, hcells⟩ := hl.form
  unfold maxLen at hm
  have hg : ∀ j : Nat, j < l.length + 12 → w.cell? ⟨g, j, none⟩ = some (.int .i64 ((l ++ marks 1).getD j 0)) := by
    intro j hj
    rw [hb.cell]
    have hj' : j < (l ++ marks 1).length := by simpa [marks] using hj
    rw [List.getElem?_toArray, List.getElem?_map, List.getElem?_eq_getElem hj', List.getD, List.getElem?_eq_getElem hj']
    rfl
  have hlen : ((l.length : Int) + 12) = ((l.length + 12 : Nat) : Int) := by omega
  have HLEN := Lib.hid hlen
  clear hlen hb
  go_enter Try.func31, Try.ntmps31
  go_wp2
  go_loopw [6] (fun i wr => ∃ k : Nat, k ≤ l.length + 12 ∧ i = .int .i64 k ∧ ∃ n, wr = w.drewN n) (fun i _ => l.length + 12 - (intOf i).toNat)
  case atStart => exact ⟨0, Nat.zero_le _, rfl, 0, rfl⟩
  case round =>
    obtain ⟨k, hk, rfl, hW⟩ := hrel
    have HW := Lib.hid hW
    by_cases hlt : k < l.length + 12
    · have g1 : wr.cell? ⟨g, k, none⟩ = some (.int .i64 ((l ++ marks 1).getD k 0)) := by obtain ⟨n, rfl⟩ := hW; exact hg k hlt
      have hka : (k : Int) < ((l.length + 12 : Nat) : Int) := by omega
      by_cases hlk : k < l.length
      · have e1 : (l ++ marks 1).getD k 0 = l.getD k 0 := by simp [List.getD, List.getElem?_append_left hlk]
        obtain ⟨b, o, rfl, hcell⟩ := hcells (by omega)
        have g2 : wr.cell? ⟨b, o + k, none⟩ = some (.int .i64 (l.getD k 0)) := by obtain ⟨n, rfl⟩ := hW; exact hcell k hlk
        rw [e1] at g1
        have hki : (k : Int) < (l.length : Int) := by omega
        have hkd : decide (l.length ≤ k) = false := by simp; omega
        generalize l.getD k 0 = x at *
        clear hcell hcells hg hl hW e1
        go_wp2
        go_quiet (fail)
        go_wp2
        go_roundw
        case rel => exact ⟨k + 1, by omega, by go_num, by obtain ⟨n, rfl⟩ := HW.out; exact ⟨_, World.drewN_drewN _ _ _⟩⟩
        case measure => simp [intOf]; omega
      · have e1 : (l ++ marks 1).getD k 0 = markOf 1 ((k : Int) - l.length) := by
          rw [List.getD, List.getElem?_append_right (by omega)]
          have : k - l.length < 12 := by omega
          simp [marks, this]
          congr 1; omega
        rw [e1] at g1
        have hki : (l.length : Int) ≤ (k : Int) := by omega
        have hkd : decide (k < l.length) = false := by simp; omega
        have hks : 0 ≤ (k : Int) - l.length := by omega
        have hks2 : (k : Int) - l.length ≤ 1000000 := by omega
        have C : ∀ W, Calls Try.prog 45 #[.int .i64 1, .int .i64 ((k : Int) - l.length)] W fun e w' => e = .returned (.int .i64 (markOf 1 ((k : Int) - l.length))) ∧ w' = W := fun W => (mark_any 1 _ W (by omega) (by omega) hks hks2).mono fun _ _ ⟨a, b⟩ => ⟨a, b.symm⟩
        generalize markOf 1 ((k : Int) - l.length) = x at *
        clear hcells hg hl hW e1
        have HC := Lib.hid C
        clear C
        go_wp2
        go_quiet ((go_at_call 45; exact Calls.quiet_of_same (HC.out _)))
        go_wp2
        go_roundw
        case rel => exact ⟨k + 1, by omega, by go_num, by obtain ⟨n, rfl⟩ := HW.out; exact ⟨_, World.drewN_drewN _ _ _⟩⟩
        case measure => simp [intOf]; omega
    · go_wp2
      go_ret
      exact ⟨rfl, HW.out⟩

theorem setCell_upd (w : World) (g i : Nat) (v : Value) : Upd (· = g) w (w.setCell ⟨g, i, none⟩ v) := (Upd.refl (· = g) _).setCell (p := ⟨g, i, none⟩) (fun _ => rfl) v

set_option maxRecDepth 100000 in
set_option maxHeartbeats 400000 in
theorem overInts_any (n c g : Nat) (cs : Array Value) (w : World) (hb : Blk w g 3 cs) (hs : cs.size = c) (hnc : n ≤ c) (hc : c ≤ maxLen) (hn : n ≤ 900000) :
    Calls Try.prog 32 #[.slice (some ⟨g, 0, none⟩) n c] w fun e w' => e = .returned (.tuple #[]) ∧ Upd (· = g) w w' ∧ w'.heap.size = w.heap.size := by
  unfold maxLen at hc
  have H0 : Hid (cs.size = c) := hs
  clear hs
  rcases Int.lt_or_le ((n : Int) + 12) (c : Int) with h | h
  · have hN : ((n : Int) + 12).toNat = n + 12 := by omega
    have hN2 : ((n + 12 : Nat) : Int) ≤ (c : Int) := by omega
    go_enter Try.func32, Try.ntmps32
    go_wp2
    go_loopw [3] (fun i wr => ∃ k : Nat, k ≤ (n + 12) ∧ i = .int .i64 k ∧ (∃ cs', Blk wr g 3 cs' ∧ cs'.size = c) ∧ Upd (· = g) w wr ∧ wr.heap.size = w.heap.size) (fun i _ => (n + 12) - (intOf i).toNat)
    case atStart => exact ⟨0, Nat.zero_le _, rfl, ⟨cs, hb, H0.out⟩, Upd.refl _ _, rfl⟩
    case round =>
      obtain ⟨k, hk, rfl, ⟨cs', hb', hs'⟩, hu, hz⟩ := hrel
      have H1 : Hid (cs'.size = c) := hs'
      have H2 : Hid (wr.heap.size = w.heap.size) := hz
      by_cases hlt : k < (n + 12)
      · obtain ⟨u, hcell⟩ : ∃ u, wr.cell? ⟨g, k, none⟩ = some u := by
          rw [hb'.cell]; exact ⟨cs'[k]'(by omega), Array.getElem?_eq_getElem (by omega)⟩
        have hfz := hb'.frozen k
        have hgl := hb'.lt
        clear hs' hz
        go_wp2_with (first
          | (go_at_call 45; refine (mark_any 2 _ _ (by omega) (by omega) (by omega) (by omega)).mono ?_; rintro e w' ⟨rfl, rfl⟩))
        go_roundw
        case rel => exact ⟨k + 1, by omega, by go_num, ⟨_, hb'.set_ k _, by simpa using H1.out⟩, hu.trans (setCell_upd wr g k _), by simpa [World.setCell] using H2.out⟩
        case measure => simp [intOf]; omega
      · clear hs' hz
        go_wp2
        go_end0
        exact ⟨rfl, hu, H2.out⟩
  · go_enter Try.func32, Try.ntmps32
    go_wp2
    go_loopw [3] (fun i wr => ∃ k : Nat, k ≤ c ∧ i = .int .i64 k ∧ (∃ cs', Blk wr g 3 cs' ∧ cs'.size = c) ∧ Upd (· = g) w wr ∧ wr.heap.size = w.heap.size) (fun i _ => c - (intOf i).toNat)
    case atStart => exact ⟨0, Nat.zero_le _, rfl, ⟨cs, hb, H0.out⟩, Upd.refl _ _, rfl⟩
    case round =>
      obtain ⟨k, hk, rfl, ⟨cs', hb', hs'⟩, hu, hz⟩ := hrel
      have H1 : Hid (cs'.size = c) := hs'
      have H2 : Hid (wr.heap.size = w.heap.size) := hz
      by_cases hlt : k < c
      · obtain ⟨u, hcell⟩ : ∃ u, wr.cell? ⟨g, k, none⟩ = some u := by
          rw [hb'.cell]; exact ⟨cs'[k]'(by omega), Array.getElem?_eq_getElem (by omega)⟩
        have hfz := hb'.frozen k
        have hgl := hb'.lt
        clear hs' hz
        go_wp2_with (first
          | (go_at_call 45; refine (mark_any 2 _ _ (by omega) (by omega) (by omega) (by omega)).mono ?_; rintro e w' ⟨rfl, rfl⟩))
        go_roundw
        case rel => exact ⟨k + 1, by omega, by go_num, ⟨_, hb'.set_ k _, by simpa using H1.out⟩, hu.trans (setCell_upd wr g k _), by simpa [World.setCell] using H2.out⟩
        case measure => simp [intOf]; omega
      · clear hs' hz
        go_wp2
        go_end0
        exact ⟨rfl, hu, H2.out⟩
end Go.Proofs.Ytjmidomcgaijjaa
