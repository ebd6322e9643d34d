/- The kit's functions: picked numbers, marks, what is the same. -/
import Derived.Test.YtchmlhceidociaaGen
import Derived.Test.YtchmlhceidociaaProg
import Derived.Deep.QuietTactic
import Derived.BigQuiet
namespace Go.Proofs.Ytchmlhceidociaa
set_option linter.unusedVariables false
open Go.RowKit

def pick (x n : Int) : Int := if x.tmod n < 0 then x.tmod n + n else x.tmod n
theorem pick_range (x n : Int) (h : 1 ≤ n) : 0 ≤ pick x n ∧ pick x n < n := by
  unfold pick
  have h1 : x.tmod n < n := Int.tmod_lt_of_pos x (by omega)
  have h2 : -n < x.tmod n := by
    have := Int.tmod_lt_of_pos (-x) (show 0 < n by omega)
    rw [Int.neg_tmod] at this; omega
  split <;> omega
set_option maxHeartbeats 400000 in
theorem pick_any (x n : Int) (w : World) (h1 : 1 ≤ n) (h2 : n ≤ 9223372036854775807) :
    Calls Try.prog 7 #[.int .i64 x, .int .i64 n] w fun e w' => e = .returned (.int .i64 (pick x n)) ∧ w = w' := by
  have hr := pick_range x n h1
  have hw : x.tmod n < 0 → wrap64 (x.tmod n + n) = pick x n := by
    intro h
    have e : pick x n = x.tmod n + n := by unfold pick; rw [if_pos h]
    rw [← e]
    unfold wrap64; omega
  have HW := Lib.hid hw
  have HR := Lib.hid hr
  clear hw hr
  go_enter Try.func7, Try.ntmps7
  go_wp2
  all_goals go_ret
  · exact ⟨ret_int (HW.out ‹_›), rfl⟩
  · exact ⟨ret_int (by unfold pick; rw [if_neg (by omega)]), rfl⟩
def markOf (k i : Int) : Int := 1000003 * (k + 7) + i
set_option maxHeartbeats 400000 in
theorem mark_any (k i : Int) (w : World) (hk : 0 ≤ k) (hk' : k ≤ 9) (hi : 0 ≤ i) (hi' : i ≤ 1000000) :
    Calls Try.prog 39 #[.int .i64 k, .int .i64 i] w fun e w' => e = .returned (.int .i64 (markOf k i)) ∧ w = w' := by
  go_enter Try.func39, Try.ntmps39
  go_wp2
  go_ret
  exact ⟨ret_int rfl, rfl⟩
set_option maxRecDepth 100000 in
set_option maxHeartbeats 400000 in
theorem sameInts_any (a b : List Int) (va vb : Value) (w : World) (ha : Ints w va a) (hb : Ints w vb b) :
    Calls Try.prog 32 #[va, vb] w fun e w' => e = .returned (.bool (decide (a = b))) ∧ ∃ n, w' = w.drewN n := by
  obtain ⟨A, ca, rfl, hca, hma, _, hcella⟩ := ha.form
  obtain ⟨B, cb, rfl, hcb, hmb, _, hcellb⟩ := hb.form
  unfold maxLen at hma hmb
  by_cases hlen : a.length = b.length
  · have hl : ((a.length : Int) == (b.length : Int)) = true := by simp [hlen]
    have hl' : ((a.length : Int) != (b.length : Int)) = false := by simp [hlen]
    have HL := Lib.hid hlen
    have hlb : a.length ≤ b.length := by omega
    clear hlen
    go_enter Try.func32, Try.ntmps32
    go_wp2
    go_loopw [5] (fun i wr => ∃ k : Nat, k ≤ a.length ∧ i = .int .i64 k ∧ (∃ n, wr = w.drewN n) ∧ a.take k = b.take k) (fun i _ => a.length - (intOf i).toNat)
    case atStart => exact ⟨0, Nat.zero_le _, rfl, ⟨0, rfl⟩, rfl⟩
    case round =>
      obtain ⟨k, hk, rfl, ⟨n, rfl⟩, heq⟩ := hrel
      have HE := Lib.hid heq
      clear heq
      by_cases hlt : k < a.length
      · obtain ⟨b1, o1, rfl, hc1⟩ := hcella (by omega)
        obtain ⟨b2, o2, rfl, hc2⟩ := hcellb (by omega)
        have g1 := hc1 k hlt
        have g2 := hc2 k (by omega)
        have hx : a.getD k 0 = a[k] := by simp [List.getD, hlt]
        have hy : b.getD k 0 = b[k]'(by omega) := by simp [List.getD, show k < b.length by omega]
        rw [hx] at g1; rw [hy] at g2
        clear hx hy hc1 hc2 hcella hcellb ha hb
        have hkb : k < b.length := by omega
        have hta : a.take (k + 1) = a.take k ++ [a[k]] := List.take_succ_eq_append_getElem hlt
        have htb : b.take (k + 1) = b.take k ++ [b[k]] := List.take_succ_eq_append_getElem hkb
        have hne : a[k] ≠ b[k] → a ≠ b := by
          intro h e; subst e; exact h rfl
        have HA := Lib.hid hta
        have HB := Lib.hid htb
        have HN := Lib.hid hne
        clear hta htb hne
        have hlk : (k : Int) < (a.length : Int) := by omega
        have hlk2 : (k : Int) < (b.length : Int) := by omega
        generalize a[k] = x at *
        generalize b[k] = y at *
        by_cases hxy : x = y
        · have h1 : (x == y) = true := by simp [hxy]
          have h2 : (x != y) = false := by simp [hxy]
          have HXY := Lib.hid hxy
          clear hxy
          go_wp2
          go_quiet (fail)
          go_wp2
          go_roundw
          case rel => exact ⟨k + 1, by omega, by go_num, ⟨_, rfl⟩, by rw [HA.out, HB.out, HE.out, HXY.out]⟩
          case measure => simp [intOf]; omega
        · have h1 : (x == y) = false := by simp [hxy]
          have h2 : (x != y) = true := by simp [hxy]
          have HXY := Lib.hid hxy
          clear hxy
          go_wp2
          go_quiet (fail)
          go_wp2
          go_ret
          exact ⟨ret_bool (by simp [HN.out HXY.out]), _, World.drewN_drewN _ _ _⟩
      · have hkl : k = a.length := by omega
        go_wp2
        go_ret
        refine ⟨ret_bool ?_, n, rfl⟩
        have h1 : a.take k = a := List.take_of_length_le (by omega)
        have h2 : b.take k = b := List.take_of_length_le (by have := HL.out; omega)
        have := HE.out
        rw [h1, h2] at this
        simp [this]
  · have hl : ((a.length : Int) == (b.length : Int)) = false := by simp; omega
    have hl' : ((a.length : Int) != (b.length : Int)) = true := by simp; omega
    have hne : a ≠ b := fun e => hlen (by rw [e])
    have HN := Lib.hid hne
    clear hne hlen
    go_enter Try.func32, Try.ntmps32
    go_wp2
    go_ret
    exact ⟨ret_bool (by simp [HN.out]), 0, rfl⟩
theorem cells_new1 (w : World) (t : TypeId) (v : Value) : ∀ j u, [v][j]? = some u → (w.alloc (.cells #[v] t)).cell? ((⟨w.heap.size, 0, none⟩ : Addr).add j) = some u := by
  intro j u hu
  rw [Addr.add_lit, Nat.zero_add, (Blk.new w t #[v]).cell]
  simpa using hu
end Go.Proofs.Ytchmlhceidociaa
