/- Deeds: as they lie in memory; how many; both stores; bounds. -/
import Derived.Test.YtchmlhceidociaaSameS
namespace Go.Proofs.Ytchmlhceidociaa
set_option linter.unusedVariables false
set_option linter.unusedSimpArgs false
open Go.RowKit

structure Dd where
  what : Int
  rule : Int
  place : Int
  end_ : Int
  level : Int
  tree : List Twg
/-- what comes in: a row of deeds -/
def Deeds (w : World) (v : Value) (ds : List Dd) : Prop := ∃ A c, v = .slice A ds.length c ∧ ds.length ≤ c ∧ c ≤ maxLen ∧ ds.length ≤ 35184372088832 ∧
  (∀ d ∈ ds, i64 d.end_ ∧ d.tree.length ≤ 35184372088832) ∧
  (0 < ds.length → ∃ b o, A = some ⟨b, o, none⟩ ∧ b < w.heap.size ∧ ∀ k (hk : k < ds.length), ∃ tv, w.cell? ⟨b, o + k * 6, none⟩ = some (.int .i64 ds[k].what) ∧ w.cell? ⟨b, o + k * 6 + 1, none⟩ = some (.int .i64 ds[k].rule) ∧
    w.cell? ⟨b, o + k * 6 + 2, none⟩ = some (.int .i64 ds[k].place) ∧ w.cell? ⟨b, o + k * 6 + 3, none⟩ = some (.int .i64 ds[k].end_) ∧ w.cell? ⟨b, o + k * 6 + 4, none⟩ = some (.int .i64 ds[k].level) ∧ w.cell? ⟨b, o + k * 6 + 5, none⟩ = some tv ∧ Twgs w tv ds[k].tree)
def sizeOf (ds : List Dd) : Nat := ds.length + (ds.map fun d => d.tree.length).sum

theorem sum_take (ds : List Dd) (k : Nat) (hk : k < ds.length) : ((ds.take (k + 1)).map fun d => d.tree.length).sum = ((ds.take k).map fun d => d.tree.length).sum + ds[k].tree.length := by
  rw [List.take_succ_eq_append_getElem hk, List.map_append, List.sum_append]
  simp only [List.map_cons, List.map_nil, List.sum_cons, List.sum_nil, Nat.add_zero]
theorem sum_take_le (ds : List Dd) (k : Nat) : ((ds.take k).map fun d => d.tree.length).sum ≤ (ds.map fun d => d.tree.length).sum := by
  have := congrArg (fun l => (l.map fun d : Dd => d.tree.length).sum) (List.take_append_drop k ds)
  simp only [List.map_append, List.sum_append] at this
  omega
theorem tree_le (ds : List Dd) (k : Nat) (hk : k < ds.length) : ds[k].tree.length ≤ sizeOf ds := by
  have h1 := sum_take ds k hk
  have h2 := sum_take_le ds (k + 1)
  unfold sizeOf
  omega

set_option maxRecDepth 100000 in
set_option maxHeartbeats 800000 in
theorem size_any (v : Value) (ds : List Dd) (w : World) (h : Deeds w v ds) :
    Calls Try.prog 4 #[v] w fun e w' => ∃ n : Nat, e = .returned (.int .i64 n) ∧ (n ≤ 2000 → n = sizeOf ds) ∧ n ≤ sizeOf ds ∧ w = w' := by
  obtain ⟨A, c, rfl, hc, hm, hl, hd, hcells⟩ := h
  unfold maxLen at hm
  have HD := Lib.hid hd
  clear hd
  go_enter Try.func4, Try.ntmps4
  go_wp2
  go_loopw [3, 4] (fun n i wr => ∃ m k : Nat, k ≤ ds.length ∧ n = .int .i64 m ∧ i = .int .i64 k ∧ m = ds.length + ((ds.take k).map fun d => d.tree.length).sum ∧ (m ≤ 70368744180000) ∧ w = wr) (fun n i _ => ds.length - (intOf i).toNat)
  case atStart => exact ⟨ds.length, 0, Nat.zero_le _, rfl, rfl, by simp, by omega, rfl⟩
  case round =>
    obtain ⟨m, k, hk, rfl, rfl, hm1, hm2, rfl⟩ := hrel
    have HM := Lib.hid hm1
    clear hm1
    by_cases hlt : k < ds.length
    · have hlk : (k : Int) < (ds.length : Int) := by omega
      obtain ⟨b, o, rfl, hb, hcell⟩ := hcells (by omega)
      obtain ⟨tv, -, -, -, -, -, g5, hI⟩ := hcell k hlt
      obtain ⟨At, ct, rfl, -⟩ := hI.form
      have HS := Lib.hid (sum_take ds k hlt)
      have ht := (HD.out _ (List.getElem_mem hlt)).2
      generalize ds[k] = x at *
      clear hcells hcell hI
      by_cases h2 : m ≤ 2000
      · have hw : (m : Int) + (x.tree.length : Int) ≤ 70368744180000 := by omega
        go_wp2
        go_roundw
        case rel => exact ⟨m + x.tree.length, k + 1, by omega, by go_num, by go_num, by rw [HS.out, HM.out]; omega, by omega, trivial⟩
        case measure => simp [intOf]; omega
      · go_wp2
        go_ret
        exact ⟨m, rfl, fun h => absurd h h2, by rw [HM.out]; exact Nat.add_le_add_left (sum_take_le ds k) _, rfl⟩
    · obtain rfl : k = ds.length := by omega
      go_wp2
      go_ret
      have hm : m = sizeOf ds := by
        rw [HM.out, List.take_length]
        rfl
      exact ⟨m, rfl, fun _ => hm, Nat.le_of_eq hm, rfl⟩

/-- both stores, apart -/
def Tw (w : World) (p q : Nat) (U : Nat → Prop) (l : List Pr) : Prop := ∃ S R, SS w p S l ∧ RS w q R l ∧ (∀ k, S k → ¬ R k) ∧ U = fun k => S k ∨ R k
theorem Tw.slt {w : World} {p q : Nat} {U : Nat → Prop} {l : List Pr} (h : Tw w p q U l) : ∀ k, U k → k < w.heap.size := by
  obtain ⟨S, R, h1, h2, _, rfl⟩ := h
  rintro k (hk | hk)
  · exact h1.slt k hk
  · exact h2.slt k hk
theorem Tw.keep {w w' : World} {p q : Nat} {U X : Nat → Prop} {l : List Pr} (h : Tw w p q U l) (hu : Upd X w w') (hn : ∀ k, U k → ¬ X k) : Tw w' p q U l := by
  obtain ⟨S, R, h1, h2, h3, rfl⟩ := h
  exact ⟨S, R, h1.keep hu (fun k hk => hn k (.inl hk)), h2.keep hu (fun k hk => hn k (.inr hk)), h3, rfl⟩
theorem Tw.ext {w w' : World} {p q : Nat} {U : Nat → Prop} {l : List Pr} (h : Tw w p q U l) (hb : Below w.heap.size w w') : Tw w' p q U l := h.keep (X := fun _ => False) (Upd.of_ext hb) (fun _ _ h => h)
/-- one store has gone on, then the other -/
theorem Tw.both {w w1 w2 : World} {p q : Nat} {S T R R1 : Nat → Prop} {l l1 : List Pr} (hs : SS w p S l) (hr : RS w q R l) (hd : ∀ k, S k → ¬ R k) (h1 : SS w1 p T l1) (st1 : Step S T w w1)
    (h2 : RS w2 q R1 l1) (st2 : Step R R1 w1 w2) : ∃ U, Tw w2 p q U l1 ∧ Step (fun k => S k ∨ R k) U w w2 := by
  have hTR : ∀ k, T k → ¬ R k := fun k hk hrk => by
    rcases st1.sub k hk with h | h
    · exact hd k h hrk
    · have := hr.slt k hrk; omega
  have hTR1 : ∀ k, T k → ¬ R1 k := fun k hk hrk => by
    rcases st2.sub k hrk with h | h
    · exact hTR k hk h
    · have := h1.slt k hk; omega
  refine ⟨fun k => T k ∨ R1 k, ⟨T, R1, h1.keep st2.upd hTR, h2, hTR1, rfl⟩, (st1.upd.mono (fun k _ hk => .inl hk)).trans' st2.upd (fun k _ hk => .inr hk), fun k hk => ?_⟩
  rcases hk with hk | hk
  · exact (st1.sub k hk).imp .inl id
  · rcases st2.sub k hk with h | h
    · exact .inl (.inr h)
    · exact .inr (Nat.le_trans st1.upd.size h)

theorem Bd.mono {n m : Nat} {l : List Pr} (h : Bd n l) (hm : n ≤ m) : Bd m l := ⟨Nat.le_trans h.len hm, fun x hx => by
  have := h.pr x hx
  exact ⟨this.1, this.2.1, this.2.2.1, this.2.2.2.1, by omega⟩⟩
theorem Bd.nil (n : Nat) : Bd n [] := ⟨Nat.zero_le _, by simp⟩
theorem Bd.begin {n : Nat} {l : List Pr} (h : Bd n l) (r pl : Int) : Bd (n + 1) (beginA l r pl).2 := by
  unfold beginA
  split
  · exact h.mono (by omega)
  · refine ⟨by simp; exact h.len, fun x hx => ?_⟩
    rcases List.mem_append.1 hx with hx | hx
    · exact (h.mono (show n ≤ n + 1 by omega)).pr x hx
    · obtain rfl : x = _ := by simpa using hx
      simp [newP]; omega
theorem Bd.pop {n : Nat} {l : List Pr} (h : Bd n l) : Bd (n + 1) (endA l).2 := by
  unfold endA
  split
  · exact h.mono (by omega)
  · exact ⟨by simp; have := h.len; omega, fun x hx => (h.mono (show n ≤ n + 1 by omega)).pr x (List.dropLast_subset _ hx)⟩
theorem Bd.grow {n : Nat} {l : List Pr} (h : Bd n l) (en lv : Int) (ts : List Twg) (ht : ts.length ≤ 2000) (h1 : -1099511627776 ≤ lv) (h2 : lv ≤ 1099511627776) (h3 : -9223372036854775808 ≤ en) (h4 : en ≤ 1099511627776 + (n + 1)) : Bd (n + 1) (growA l en lv ts).2 := by
  unfold growA
  split
  · exact h.mono (by omega)
  · rename_i x hx
    split
    · refine ⟨by have := h.len; simp; omega, fun y hy => ?_⟩
      rcases List.mem_append.1 hy with hy | hy
      · exact (h.mono (show n ≤ n + 1 by omega)).pr y (List.dropLast_subset _ hy)
      · obtain rfl : y = _ := by simpa using hy
        exact ⟨ht, h1, h2, h3, by push_cast; omega⟩
    · exact h.mono (by omega)
end Go.Proofs.Ytchmlhceidociaa
