/- Twigs: rows of five numbers; what is the same. -/
import Derived.Test.YtchmlhceidociaaTab
import Derived.Test.YtchmlhceidociaaPick
namespace Go.Proofs.Ytchmlhceidociaa
set_option linter.unusedVariables false
set_option linter.unusedSimpArgs false
open Go.RowKit

structure Twg where
  rule : Int
  level : Int
  from_ : Int
  to_ : Int
  kids : Int
def Twg.cells (t : Twg) : List Value := [.int .i64 t.rule, .int .i64 t.level, .int .i64 t.from_, .int .i64 t.to_, .int .i64 t.kids]
theorem twg_at (ts : List Twg) (k : Nat) (hk : k < ts.length) (j : Nat) (hj : j < 5) : (ts.flatMap Twg.cells)[k * 5 + j]? = (ts[k].cells)[j]? := by
  induction ts generalizing k with
  | nil => simp at hk
  | cons e ts ih =>
    have hl : e.cells.length = 5 := rfl
    rw [List.flatMap_cons]
    cases k with
    | zero => rw [List.getElem?_append_left (by omega)]; simp
    | succ k =>
      rw [List.getElem?_append_right (by omega), show (k + 1) * 5 + j - e.cells.length = k * 5 + j by omega]
      exact ih k (by simpa using hk)
/-- the slice value v holds the twigs ts -/
def Twgs (w : World) (v : Value) (ts : List Twg) : Prop := Reads w 5 v ts.length (ts.flatMap Twg.cells)
theorem Twgs.form {w : World} {v : Value} {ts : List Twg} (h : Twgs w v ts) : ∃ A c, v = .slice A ts.length c ∧ ts.length ≤ c ∧ c ≤ maxLen ∧ (A = none → c = 0) ∧ (0 < ts.length → ∃ b o, A = some ⟨b, o, none⟩ ∧ ∀ k (hk : k < ts.length),
    w.cell? ⟨b, o + k * 5, none⟩ = some (.int .i64 ts[k].rule) ∧ w.cell? ⟨b, o + k * 5 + 1, none⟩ = some (.int .i64 ts[k].level) ∧ w.cell? ⟨b, o + k * 5 + 2, none⟩ = some (.int .i64 ts[k].from_) ∧
    w.cell? ⟨b, o + k * 5 + 3, none⟩ = some (.int .i64 ts[k].to_) ∧ w.cell? ⟨b, o + k * 5 + 4, none⟩ = some (.int .i64 ts[k].kids)) := by
  obtain ⟨A, c, rfl, h1, h2, h0', h3, h4⟩ := h
  refine ⟨A, c, rfl, h1, h2, h0', fun hn => ?_⟩
  obtain ⟨⟨b, o, s⟩, rfl, hc⟩ := h4 hn
  have h0 := hc _ _ ((twg_at ts 0 hn 0 (by omega)).trans rfl)
  have hs : s = none := by simpa [Addr.add] using World.cell?_spot h0
  subst hs
  refine ⟨b, o, rfl, fun k hk => ?_⟩
  have g : ∀ j (hj : j < 5), w.cell? ⟨b, o + k * 5 + j, none⟩ = some ((ts[k].cells)[j]'hj) := by
    intro j hj
    have := hc _ _ ((twg_at ts k hk j hj).trans (List.getElem?_eq_getElem hj))
    rwa [Addr.add_lit, ← Nat.add_assoc] at this
  exact ⟨g 0 (by omega), g 1 (by omega), g 2 (by omega), g 3 (by omega), g 4 (by omega)⟩

set_option maxRecDepth 100000 in
set_option maxHeartbeats 800000 in
/-- the same twigs are the same -/
theorem sameTwigs_self (ts : List Twg) (va vb : Value) (w : World) (ha : Twgs w va ts) (hb : Twgs w vb ts) :
    Calls Try.prog 37 #[va, vb] w fun e w' => e = .returned (.bool true) ∧ ∃ n, w' = w.drewN n := by
  obtain ⟨A, ca, rfl, hca, hma, _, hcella⟩ := ha.form
  obtain ⟨B, cb, rfl, hcb, hmb, _, hcellb⟩ := hb.form
  unfold maxLen at hma hmb
  clear ha hb
  go_enter Try.func37, Try.ntmps37
  go_wp2
  go_loopw [5] (fun i wr => ∃ k : Nat, k ≤ ts.length ∧ i = .int .i64 k ∧ (∃ n, wr = w.drewN n)) (fun i _ => ts.length - (intOf i).toNat)
  case atStart => exact ⟨0, Nat.zero_le _, rfl, ⟨0, rfl⟩⟩
  case round =>
    obtain ⟨k, hk, rfl, ⟨n, rfl⟩⟩ := hrel
    by_cases hlt : k < ts.length
    · obtain ⟨b1, o1, rfl, hc1⟩ := hcella (by omega)
      obtain ⟨b2, o2, rfl, hc2⟩ := hcellb (by omega)
      obtain ⟨g0, g1, g2, g3, g4⟩ := hc1 k hlt
      obtain ⟨f0, f1, f2, f3, f4⟩ := hc2 k hlt
      have hlk : (k : Int) < (ts.length : Int) := by omega
      clear hc1 hc2 hcella hcellb
      generalize ts[k] = x at *
      go_wp2
      go_quiet (fail)
      go_wp2
      go_roundw
      case rel => exact ⟨k + 1, by omega, by go_num, ⟨_, rfl⟩⟩
      case measure => simp [intOf]; omega
    · obtain rfl : k = ts.length := by omega
      go_wp2
      go_ret
      exact ⟨rfl, n, rfl⟩

/-- the twig that marks a place -/
def markTw (k i : Int) : Twg := ⟨markOf k i, 0, 0, 0, 0⟩
set_option maxRecDepth 100000 in
set_option maxHeartbeats 400000 in
theorem markTwig_any (k i : Int) (w : World) (hk : 0 ≤ k) (hk' : k ≤ 9) (hi : 0 ≤ i) (hi' : i ≤ 1000000) :
    Calls Try.prog 20 #[.int .i64 k, .int .i64 i] w fun e w' => e = .returned (.agg (markTw k i).cells.toArray) ∧ Below w.heap.size w w' := by
  have HM := Lib.hid (fun W => mark_any k i W hk hk' hi hi')
  have HV := Lib.hid (show (markTw k i).cells.toArray = #[.int .i64 (markOf k i), .int .i64 0, .int .i64 0, .int .i64 0, .int .i64 0] from rfl)
  rw [HV.out]
  generalize markOf k i = m at *
  go_enter Try.func20, Try.ntmps20
  go_wp2_with (first | (go_at_call 39; refine (HM.out _).mono ?_; rintro e w1 ⟨rfl, rfl⟩))
  refine bodyPost_ret (v := .agg #[.int .i64 m, .int .i64 0, .int .i64 0, .int .i64 0, .int .i64 0]) (by simp [results, Try.results20, go_sem]) rfl ⟨rfl, (ext_refl w).alloc (Nat.le_refl _) _⟩
end Go.Proofs.Ytchmlhceidociaa
