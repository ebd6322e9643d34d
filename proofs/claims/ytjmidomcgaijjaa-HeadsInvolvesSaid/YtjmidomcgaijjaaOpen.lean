/- What came in, opened: steps, numbers. -/
import Derived.Test.YtjmidomcgaijjaaStart
import Derived.Test.YtjmidomcgaijjaaRows
import Derived.WalkKit
import Derived.ProofKit
import Derived.OpenShut
import Derived.ShutString
import Derived.ChangeOld
import Derived.Below
import Derived.Deep.Slices
import Derived.Deep.Fields
import Derived.ChangeSame
namespace Go.Proofs.Ytjmidomcgaijjaa
open Go.ChangeShapes Go.WideShapes Go.ChangeAt Go.RowKit Go.Deep
set_option linter.unusedVariables false

theorem own : ownKnob Try.prog.godebug = none := by kernel_rfl
theorem laidOut : laidOutB Try.prog = true := by kernel_rfl

theorem i64_of_wf {x : Int} (h : (Lit.int .i64 x).wf = true) : i64 x := by
  have := h
  unfold i64
  simp [Lit.wf, IntKind.min, IntKind.max, IntKind.signed, IntKind.bits] at this
  exact this

section
variable {H : Type} {enc : TypeId × Value → H} {w : World} {base : Nat} {spare : Nat → Bool} {held : Bool}
/-- a slice of numbers that came in -/
theorem ints_of_trod {fuel : Nat} {a : Option Addr} {len cap : Nat} {x : DataW H × List MemPlace} (h : DataW.trod enc Try.prog w base spare held fuel 38 (Value.slice a len cap).cells.toList = some x) :
    ∃ l, Ints w (.slice a len cap) l ∧ ∀ y ∈ l, i64 y := by
  rcases open_ints Try.underlying38 Try.underlying3 (by kernel_rfl) h with ⟨hcs, _⟩ | ⟨y, l, c, zs, hcs, _, hl, hm, hz, _, hcell, hwz⟩
  · simp [Value.cells] at hcs
    obtain ⟨rfl, rfl, rfl⟩ := hcs
    exact ⟨[], ⟨none, 0, rfl, Nat.le_refl _, by simp, fun _ => rfl, rfl, fun h => by simp at h⟩, by simp⟩
  · simp [Value.cells] at hcs
    obtain ⟨rfl, rfl, rfl⟩ := hcs
    have hzl : len ≤ zs.length := by rw [hz]; split <;> omega
    have hlz : (zs.take len).length = len := by rw [List.length_take]; omega
    refine ⟨zs.take len, ⟨_, _, by rw [hlz], by rw [hlz]; exact hl, hm, by simp, by simp, fun _ => ⟨y, rfl, fun j u hj => ?_⟩⟩, fun z hz' => i64_of_wf (hwz z (List.mem_of_mem_take hz'))⟩
    rw [List.getElem?_map, List.getElem?_take] at hj
    split at hj
    · rename_i hjl
      have hjz : j < zs.length := by omega
      rw [hcell j hjz]
      rw [List.getElem?_eq_getElem hjz] at hj
      simpa [List.getD, hjz] using hj
    · simp at hj

set_option maxRecDepth 100000 in
/-- a slice of steps that came in -/
theorem steps_of_trod {fuel : Nat} {v : Value} {x : DataW H × List MemPlace} (hv : v.cells.toList = [v]) (h : DataW.trod enc Try.prog w base spare held fuel 22 v.cells.toList = some x) :
    ∃ xs, Steps w v xs := by
  rw [hv] at h
  rcases open_slice Try.underlying22 h with ⟨hcs, _⟩ | ⟨a, len, cap, m, n, D, Pl, hcs, hb, hl, hm, hmm, hx, hi⟩
  · obtain rfl : v = .slice none 0 0 := by simpa using hcs
    exact ⟨[], none, 0, rfl, Nat.le_refl _, by simp, by simp, fun h => by simp at h⟩
  · obtain rfl : v = .slice (some a) len cap := by simpa using hcs
    have hlm : len ≤ m := by rw [hmm]; split <;> omega
    have hC : Try.prog.cellsOf 35 = 3 := by kernel_rfl
    rw [hC] at hi
    have key : ∀ i, i < len → ∃ s : Stp, i64 s.rule ∧ w.cell? (a.add (i * 3)) = some (.int .i64 s.what) ∧ w.cell? (a.add (i * 3 + 1)) = some (.int .i64 s.rule) ∧ w.cell? (a.add (i * 3 + 2)) = some (.bool s.on) := by
      intro i hil
      obtain ⟨cs', hc, ht'⟩ := hi i (by omega)
      obtain ⟨ys, n', hn', hy, hlen, hyl, hf⟩ := DataW.trod_struct Try.underlying35 ht'
      obtain ⟨_, hcl, hat⟩ := World.cells?_some hc
      match cs', hcl with
      | [c0, c1, c2], _ =>
        have f0 : DataW.trod enc Try.prog w base spare held n' 3 ((List.drop 0 [c0, c1, c2]).take (Try.prog.cellsOf 3)) = ys[0]? := hf 0 _ rfl
        have f1 : DataW.trod enc Try.prog w base spare held n' 3 ((List.drop 1 [c0, c1, c2]).take (Try.prog.cellsOf 3)) = ys[1]? := hf 1 _ rfl
        have f2 : DataW.trod enc Try.prog w base spare held n' 4 ((List.drop 2 [c0, c1, c2]).take (Try.prog.cellsOf 4)) = ys[2]? := hf 2 _ rfl
        have e0 := hat 0 (by omega)
        have e1 := hat 1 (by omega)
        have e2 := hat 2 (by omega)
        have k3 : Try.prog.cellsOf 3 = 1 := by kernel_rfl
        have k4 : Try.prog.cellsOf 4 = 1 := by kernel_rfl

        rw [k3] at f0 f1
        rw [k4] at f2
        have hyl' : ys.length = 3 := hyl
        match ys, hyl' with
        | [y0, y1, y2], _ =>
          obtain ⟨n0, h0, _, w0⟩ := DataW.trod_int Try.underlying3 f0
          obtain ⟨n1, h1, _, w1⟩ := DataW.trod_int Try.underlying3 f1
          obtain ⟨b2, h2, _⟩ := DataW.trod_bool Try.underlying4 f2
          obtain rfl : c0 = .int .i64 n0 := (List.cons.inj h0).1
          obtain rfl : c1 = .int .i64 n1 := (List.cons.inj h1).1
          obtain rfl : c2 = .bool b2 := (List.cons.inj h2).1
          have a1 : (a.add (i * 3)).add 1 = a.add (i * 3 + 1) := by rw [Go.Deep.add_add]
          have a2 : (a.add (i * 3)).add 2 = a.add (i * 3 + 2) := by rw [Go.Deep.add_add]
          have a0 : (a.add (i * 3)).add 0 = a.add (i * 3) := by rw [Go.Deep.add_add]; rfl
          rw [a0] at e0
          rw [a1] at e1
          rw [a2] at e2
          exact ⟨⟨n0, n1, b2⟩, i64_of_wf w1, e0, e1, e2⟩
    have hall : ∃ xs : List Stp, xs.length = len ∧ (∀ x ∈ xs, i64 x.rule) ∧ ∀ i (hi : i < xs.length), w.cell? (a.add (i * 3)) = some (.int .i64 xs[i].what) ∧ w.cell? (a.add (i * 3 + 1)) = some (.int .i64 xs[i].rule) ∧ w.cell? (a.add (i * 3 + 2)) = some (.bool xs[i].on) := by
      have hch : ∀ l, l ≤ len → ∃ xs : List Stp, xs.length = l ∧ (∀ x ∈ xs, i64 x.rule) ∧ ∀ i (hi : i < xs.length), w.cell? (a.add (i * 3)) = some (.int .i64 xs[i].what) ∧ w.cell? (a.add (i * 3 + 1)) = some (.int .i64 xs[i].rule) ∧ w.cell? (a.add (i * 3 + 2)) = some (.bool xs[i].on) := by
        intro l
        induction l with
        | zero => intro _; exact ⟨[], rfl, by simp, fun i hi => by simp at hi⟩
        | succ l ih =>
          intro hl
          obtain ⟨xs, h1, h2, h3⟩ := ih (by omega)
          obtain ⟨s, s1, s2⟩ := key l (by omega)
          refine ⟨xs ++ [s], by simp [h1], fun x hx => ?_, fun i hi => ?_⟩
          · rcases List.mem_append.1 hx with hx | hx
            · exact h2 x hx
            · obtain rfl : x = s := by simpa using hx
              exact s1
          · by_cases hil : i < xs.length
            · rw [List.getElem_append_left hil]; exact h3 i hil
            · have : i = l := by simp at hi; omega
              subst this
              have e : (xs ++ [s])[i]'hi = s := by simp [← h1]
              rw [e]; exact s2
      exact hch len (Nat.le_refl _)
    obtain ⟨xs, h1, h2, h3⟩ := hall
    subst h1
    refine ⟨xs, some a, cap, rfl, hl, hm, h2, fun hn => ?_⟩
    obtain ⟨ab, ao, asp⟩ := a
    have hs : asp = none := by simpa [Addr.add] using World.cell?_spot (h3 0 hn).1
    subst hs
    refine ⟨ab, ao, rfl, World.block_lt_of_cell? w _ (h3 0 hn).1, fun k hk => ?_⟩
    have := h3 k hk
    rw [Addr.add_lit, Addr.add_lit, Addr.add_lit, ← Nat.add_assoc, ← Nat.add_assoc] at this
    exact this
end
end Go.Proofs.Ytjmidomcgaijjaa
