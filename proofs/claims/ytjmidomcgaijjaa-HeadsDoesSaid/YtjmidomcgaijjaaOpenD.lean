/- What came in, opened: deeds. -/
import Derived.Test.YtjmidomcgaijjaaOpen
import Derived.Test.YtjmidomcgaijjaaDeed
import Derived.SizedLaws
namespace Go.Proofs.Ytjmidomcgaijjaa
open Go.ChangeShapes Go.WideShapes Go.ChangeAt Go.RowKit Go.Deep
set_option linter.unusedVariables false
set_option linter.unusedSimpArgs false

theorem weightsAll_mem {H : Type} {P : Program} {e : TypeId} : ∀ {l : List (DataW H)} {d : DataW H} {n : Nat}, d ∈ l → n ∈ d.weights P e → n ∈ DataW.weightsAll P e l
  | [], _, _, h, _ => by cases h
  | a :: l, d, n, h, hn => by
    simp only [DataW.weightsAll, List.mem_append]
    rcases List.mem_cons.1 h with rfl | h
    · exact .inl hn
    · exact .inr (weightsAll_mem h hn)

section
variable {H : Type} {enc : TypeId × Value → H} {w : World} {base : Nat} {spare : Nat → Bool} {held : Bool}
set_option maxRecDepth 100000 in
/-- a slice of deeds that came in -/
theorem deeds_of_trod {fuel : Nat} {v : Value} {x : DataW H × List MemPlace} (hv : v.cells.toList = [v]) (h : DataW.trod enc Try.prog w base spare held fuel 48 v.cells.toList = some x)
    (hw : ∀ n ∈ x.1.weights Try.prog 48, n ≤ reachBytes) : ∃ ds, Deeds w v ds := by
  rw [hv] at h
  have hR : reachBytes = 140737488351232 := rfl
  rcases open_slice Try.underlying48 h with ⟨hcs, _⟩ | ⟨a, len, cap, m, n, D, Pl, hcs, hb, hl, hm, hmm, hx, hi⟩
  · obtain rfl : v = .slice none 0 0 := by simpa using hcs
    exact ⟨[], none, 0, rfl, Nat.le_refl _, by simp, by simp, by simp, fun h => by simp at h⟩
  · obtain rfl : v = .slice (some a) len cap := by simpa using hcs
    have hlm : len ≤ m := by rw [hmm]; split <;> omega
    have hC : Try.prog.cellsOf 55 = 4 := by kernel_rfl
    have hB : Try.prog.bytesOf 55 = 48 := by kernel_rfl
    have hB2 : Try.prog.bytesOf 3 = 8 := by kernel_rfl
    subst hx
    have hwx : ∀ n, n = (len + (m - len)) * 48 ∨ (∃ i, i < len ∧ n ∈ (D i).weights Try.prog 55) → n ≤ reachBytes := by
      intro n hn
      refine hw n ?_
      simp only [DataW.weights, Try.underlying48, List.mem_cons, List.mem_append, List.length_map, List.length_range, hB]
      rcases hn with hn | ⟨i, hil, hn⟩
      · exact .inl hn
      · exact .inr (.inl (weightsAll_mem (List.mem_map.2 ⟨i, List.mem_range.2 hil, rfl⟩) hn))
    have hlen : len ≤ 35184372088832 := by
      have := hwx _ (.inl rfl)
      omega
    rw [hC] at hi
    have key : ∀ i, i < len → ∃ s : Dd, (i64 s.rule ∧ i64 s.place ∧ (∀ y ∈ s.touched, i64 y) ∧ s.touched.length ≤ 35184372088832) ∧ ∃ tv, w.cell? (a.add (i * 4)) = some (.int .i64 s.what) ∧ w.cell? (a.add (i * 4 + 1)) = some (.int .i64 s.rule) ∧ w.cell? (a.add (i * 4 + 2)) = some (.int .i64 s.place) ∧ w.cell? (a.add (i * 4 + 3)) = some tv ∧ Ints w tv s.touched := by
      intro i hil
      obtain ⟨cs', hc, ht'⟩ := hi i (by omega)
      obtain ⟨ys, n', hn', hy, hlen', hyl, hf⟩ := DataW.trod_struct Try.underlying55 ht'
      obtain ⟨_, hcl, hat⟩ := World.cells?_some hc
      match cs', hcl with
      | [c0, c1, c2, c3], _ =>
        have f0 : DataW.trod enc Try.prog w base spare held n' 3 ((List.drop 0 [c0, c1, c2, c3]).take (Try.prog.cellsOf 3)) = ys[0]? := hf 0 _ rfl
        have f1 : DataW.trod enc Try.prog w base spare held n' 3 ((List.drop 1 [c0, c1, c2, c3]).take (Try.prog.cellsOf 3)) = ys[1]? := hf 1 _ rfl
        have f2 : DataW.trod enc Try.prog w base spare held n' 3 ((List.drop 2 [c0, c1, c2, c3]).take (Try.prog.cellsOf 3)) = ys[2]? := hf 2 _ rfl
        have f3 : DataW.trod enc Try.prog w base spare held n' 38 ((List.drop 3 [c0, c1, c2, c3]).take (Try.prog.cellsOf 38)) = ys[3]? := hf 3 _ rfl
        have e0 := hat 0 (by omega)
        have e1 := hat 1 (by omega)
        have e2 := hat 2 (by omega)
        have e3 := hat 3 (by omega)
        have k3 : Try.prog.cellsOf 3 = 1 := by kernel_rfl
        have k4 : Try.prog.cellsOf 38 = 1 := by kernel_rfl
        rw [k3] at f0 f1 f2
        rw [k4] at f3
        have hyl' : ys.length = 4 := hyl
        match ys, hyl' with
        | [y0, y1, y2, y3], _ =>
          obtain ⟨n0, h0, _, w0⟩ := DataW.trod_int Try.underlying3 f0
          obtain ⟨n1, h1, _, w1⟩ := DataW.trod_int Try.underlying3 f1
          obtain ⟨n2, h2, _, w2⟩ := DataW.trod_int Try.underlying3 f2
          obtain rfl : c0 = .int .i64 n0 := (List.cons.inj h0).1
          obtain rfl : c1 = .int .i64 n1 := (List.cons.inj h1).1
          obtain rfl : c2 = .int .i64 n2 := (List.cons.inj h2).1
          have a1 : (a.add (i * 4)).add 1 = a.add (i * 4 + 1) := by rw [Go.Deep.add_add]
          have a2 : (a.add (i * 4)).add 2 = a.add (i * 4 + 2) := by rw [Go.Deep.add_add]
          have a3 : (a.add (i * 4)).add 3 = a.add (i * 4 + 3) := by rw [Go.Deep.add_add]
          have a0 : (a.add (i * 4)).add 0 = a.add (i * 4) := by rw [Go.Deep.add_add]; rfl
          rw [a0] at e0
          rw [a1] at e1
          rw [a2] at e2
          rw [a3] at e3
          have f3' : DataW.trod enc Try.prog w base spare held n' 38 [c3] = some y3 := f3
          have hD : (D i).weights Try.prog 55 = DataW.weightsEach Try.prog [3, 3, 3, 38] [y0.1, y1.1, y2.1, y3.1] := by
            have e : D i = .agg [y0.1, y1.1, y2.1, y3.1] := congrArg Prod.fst hy
            rw [e]
            simp only [DataW.weights, Try.underlying55]
            rfl
          have hw3 : ∀ n ∈ y3.1.weights Try.prog 38, n ≤ reachBytes := fun n hn => hwx n (.inr ⟨i, hil, by rw [hD]; exact DataW.weights_mem_each (j := 3) rfl rfl n hn⟩)
          rcases open_ints Try.underlying38 Try.underlying3 (by kernel_rfl) f3' with ⟨hc3, _⟩ | ⟨y, l, c, zs, hc3, _, hl3, _, hz, hx3, _, _⟩
          · obtain rfl : c3 = .slice none 0 0 := by simpa using hc3
            exact ⟨⟨n0, n1, n2, []⟩, ⟨i64_of_wf w1, i64_of_wf w2, by simp, by simp⟩, _, e0, e1, e2, e3, ⟨none, 0, rfl, Nat.le_refl _, by simp, fun _ => rfl, rfl, fun h => by simp at h⟩⟩
          · obtain rfl : c3 = .slice (some y) l c := by simpa using hc3
            obtain ⟨ts, hts, hts2⟩ := ints_of_trod (a := some y) (len := l) (cap := c) f3'
            have hlen3 : ts.length = l := by
              obtain ⟨_, _, e, _⟩ := hts
              injection e with _ e _
              exact e.symm
            have hzl : l ≤ zs.length := by rw [hz]; split <;> omega
            have h8 := hw3 ((lits .i64 (zs.take l) : List (DataW H)).length * 8 + (lits .i64 (zs.drop l) : List (DataW H)).length * 8) (by
              rw [hx3]
              simp only [DataW.weights, Try.underlying38, hB2, Nat.add_mul]
              exact List.mem_cons_self ..)
            have hll : (lits .i64 (zs.take l) : List (DataW H)).length = (zs.take l).length := by simp [lits]
            rw [hll, List.length_take] at h8
            exact ⟨⟨n0, n1, n2, ts⟩, ⟨i64_of_wf w1, i64_of_wf w2, hts2, by show ts.length ≤ _; omega⟩, _, e0, e1, e2, e3, hts⟩
    have hall : ∃ ds : List Dd, ds.length = len ∧ (∀ s ∈ ds, i64 s.rule ∧ i64 s.place ∧ (∀ y ∈ s.touched, i64 y) ∧ s.touched.length ≤ 35184372088832) ∧ ∀ i (hi : i < ds.length), ∃ tv, w.cell? (a.add (i * 4)) = some (.int .i64 ds[i].what) ∧ w.cell? (a.add (i * 4 + 1)) = some (.int .i64 ds[i].rule) ∧ w.cell? (a.add (i * 4 + 2)) = some (.int .i64 ds[i].place) ∧ w.cell? (a.add (i * 4 + 3)) = some tv ∧ Ints w tv ds[i].touched := by
      have hch : ∀ l, l ≤ len → ∃ ds : List Dd, ds.length = l ∧ (∀ s ∈ ds, i64 s.rule ∧ i64 s.place ∧ (∀ y ∈ s.touched, i64 y) ∧ s.touched.length ≤ 35184372088832) ∧ ∀ i (hi : i < ds.length), ∃ tv, w.cell? (a.add (i * 4)) = some (.int .i64 ds[i].what) ∧ w.cell? (a.add (i * 4 + 1)) = some (.int .i64 ds[i].rule) ∧ w.cell? (a.add (i * 4 + 2)) = some (.int .i64 ds[i].place) ∧ w.cell? (a.add (i * 4 + 3)) = some tv ∧ Ints w tv ds[i].touched := by
        intro l
        induction l with
        | zero => intro _; exact ⟨[], rfl, by simp, fun i hi => by simp at hi⟩
        | succ l ih =>
          intro hl
          obtain ⟨xs, h1, h2, h3⟩ := ih (by omega)
          obtain ⟨s, s1, s2⟩ := key l (by omega)
          refine ⟨xs ++ [s], by simp [h1], fun x hx => ?_, fun i hi => ?_⟩
          · rcases List.mem_append.1 hx with hx | hx
            · exact h2 x hx
            · obtain rfl : x = s := by simpa using hx
              exact s1
          · by_cases hil : i < xs.length
            · rw [List.getElem_append_left hil]; exact h3 i hil
            · have : i = l := by simp at hi; omega
              subst this
              have e : (xs ++ [s])[i]'hi = s := by simp [← h1]
              rw [e]; exact s2
      exact hch len (Nat.le_refl _)
    obtain ⟨xs, h1, h2, h3⟩ := hall
    subst h1
    refine ⟨xs, some a, cap, rfl, hl, hm, hlen, h2, fun hn => ?_⟩
    obtain ⟨ab, ao, asp⟩ := a
    have hs : asp = none := by
      obtain ⟨_, g, _⟩ := h3 0 hn
      simpa [Addr.add] using World.cell?_spot g
    subst hs
    obtain ⟨_, g, _⟩ := h3 0 hn
    refine ⟨ab, ao, rfl, World.block_lt_of_cell? w _ g, fun k hk => ?_⟩
    have := h3 k hk
    rw [Addr.add_lit, Addr.add_lit, Addr.add_lit, Addr.add_lit, ← Nat.add_assoc, ← Nat.add_assoc, ← Nat.add_assoc] at this
    exact this
end
end Go.Proofs.Ytjmidomcgaijjaa
