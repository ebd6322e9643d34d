/- What came in, opened: twigs, deeds. -/
import Derived.Test.YtchmlhceidociaaDdS
import Derived.Test.YtchmlhceidociaaRows
import Derived.ProofKit
import Derived.OpenShut
import Derived.ShutString
import Derived.ChangeOld
import Derived.Deep.Slices
import Derived.Deep.Fields
import Derived.ChangeSame
import Derived.SizedLaws
namespace Go.Proofs.Ytchmlhceidociaa
open Go.ChangeShapes Go.WideShapes Go.ChangeAt Go.RowKit Go.Deep
set_option linter.unusedVariables false
set_option linter.unusedSimpArgs false

theorem own : ownKnob Try.prog.godebug = none := by kernel_rfl
theorem laidOut : laidOutB Try.prog = true := by kernel_rfl
theorem i64_of_wf {x : Int} (h : (Lit.int .i64 x).wf = true) : i64 x := by
  have := h
  unfold i64
  simp [Lit.wf, IntKind.min, IntKind.max, IntKind.signed, IntKind.bits] at this
  exact this
theorem weightsAll_mem {H : Type} {P : Program} {e : TypeId} : ∀ {l : List (DataW H)} {d : DataW H} {n : Nat}, d ∈ l → n ∈ d.weights P e → n ∈ DataW.weightsAll P e l
  | [], _, _, h, _ => by cases h
  | a :: l, d, n, h, hn => by
    simp only [DataW.weightsAll, List.mem_append]
    rcases List.mem_cons.1 h with rfl | h
    · exact .inl hn
    · exact .inr (weightsAll_mem h hn)
/-- of each number below len something; a list of them -/
theorem choose_list {α : Type} (len : Nat) (Q : Nat → α → Prop) (h : ∀ i, i < len → ∃ s, Q i s) : ∃ l : List α, l.length = len ∧ ∀ i (hi : i < l.length), Q i l[i] := by
  have hch : ∀ n, n ≤ len → ∃ l : List α, l.length = n ∧ ∀ i (hi : i < l.length), Q i l[i] := by
    intro n
    induction n with
    | zero => intro _; exact ⟨[], rfl, fun i hi => by simp at hi⟩
    | succ n ih =>
      intro hn
      obtain ⟨l, h1, h2⟩ := ih (by omega)
      obtain ⟨s, hs⟩ := h n (by omega)
      refine ⟨l ++ [s], by simp [h1], fun i hi => ?_⟩
      by_cases hil : i < l.length
      · rw [List.getElem_append_left hil]; exact h2 i hil
      · have : i = n := by simp at hi; omega
        subst this
        have e : (l ++ [s])[i]'hi = s := by simp [← h1]
        rw [e]; exact hs
  exact hch len (Nat.le_refl _)

section
variable {H : Type} {enc : TypeId × Value → H} {w : World} {base : Nat} {spare : Nat → Bool} {held : Bool}
set_option maxRecDepth 100000 in
/-- a twig that came in -/
theorem twig_of_trod {fuel : Nat} {cs : List Value} {a : Addr} {x : DataW H × List MemPlace} (hc : w.cells? base a 5 = some cs) (h : DataW.trod enc Try.prog w base spare held fuel 61 cs = some x) :
    ∃ t : Twg, ∀ j (hj : j < 5), w.cell? (a.add j) = some (t.cells[j]'hj) := by
  obtain ⟨ys, n', hn', hy, hlen', hyl, hf⟩ := DataW.trod_struct Try.underlying61 h
  obtain ⟨_, hcl, hat⟩ := World.cells?_some hc
  match cs, hcl with
  | [c0, c1, c2, c3, c4], _ =>
    have k3 : Try.prog.cellsOf 3 = 1 := by kernel_rfl
    have kS : Try.prog.cellsOf 59 = 2 := by kernel_rfl
    have f0 : DataW.trod enc Try.prog w base spare held n' 3 ((List.drop 0 [c0, c1, c2, c3, c4]).take (Try.prog.cellsOf 3)) = ys[0]? := hf 0 _ rfl
    have f1 : DataW.trod enc Try.prog w base spare held n' 3 ((List.drop 1 [c0, c1, c2, c3, c4]).take (Try.prog.cellsOf 3)) = ys[1]? := hf 1 _ rfl
    have f2 : DataW.trod enc Try.prog w base spare held n' 59 ((List.drop 2 [c0, c1, c2, c3, c4]).take (Try.prog.cellsOf 59)) = ys[2]? := hf 2 _ rfl
    have f4 : DataW.trod enc Try.prog w base spare held n' 3 ((List.drop 4 [c0, c1, c2, c3, c4]).take (Try.prog.cellsOf 3)) = ys[3]? := hf 3 _ rfl
    rw [k3] at f0 f1 f4
    rw [kS] at f2
    have hyl' : ys.length = 4 := hyl
    match ys, hyl' with
    | [y0, y1, y2, y4], _ =>
      obtain ⟨n0, h0, _, _⟩ := DataW.trod_int Try.underlying3 f0
      obtain ⟨n1, h1, _, _⟩ := DataW.trod_int Try.underlying3 f1
      obtain ⟨n4, h4, _, _⟩ := DataW.trod_int Try.underlying3 f4
      have f2' : DataW.trod enc Try.prog w base spare held n' 59 [c2, c3] = some y2 := f2
      obtain ⟨zs, n2, _, _, _, hzl, hg⟩ := DataW.trod_struct Try.underlying59 f2'
      have g0 : DataW.trod enc Try.prog w base spare held n2 3 ((List.drop 0 [c2, c3]).take (Try.prog.cellsOf 3)) = zs[0]? := hg 0 _ rfl
      have g1 : DataW.trod enc Try.prog w base spare held n2 3 ((List.drop 1 [c2, c3]).take (Try.prog.cellsOf 3)) = zs[1]? := hg 1 _ rfl
      rw [k3] at g0 g1
      have hzl' : zs.length = 2 := hzl
      match zs, hzl' with
      | [z0, z1], _ =>
        obtain ⟨n2', h2, _, _⟩ := DataW.trod_int Try.underlying3 g0
        obtain ⟨n3', h3, _, _⟩ := DataW.trod_int Try.underlying3 g1
        obtain rfl : c0 = .int .i64 n0 := (List.cons.inj h0).1
        obtain rfl : c1 = .int .i64 n1 := (List.cons.inj h1).1
        obtain rfl : c2 = .int .i64 n2' := (List.cons.inj h2).1
        obtain rfl : c3 = .int .i64 n3' := (List.cons.inj h3).1
        obtain rfl : c4 = .int .i64 n4 := (List.cons.inj h4).1
        refine ⟨⟨n0, n1, n2', n3', n4⟩, fun j hj => ?_⟩
        have := hat j hj
        rw [this]
        match j, hj with
        | 0, _ => rfl
        | 1, _ => rfl
        | 2, _ => rfl
        | 3, _ => rfl
        | 4, _ => rfl
set_option maxRecDepth 100000 in
/-- a slice of twigs that came in -/
theorem twigs_of_trod {fuel : Nat} {v : Value} {x : DataW H × List MemPlace} (hv : v.cells.toList = [v]) (h : DataW.trod enc Try.prog w base spare held fuel 31 v.cells.toList = some x)
    (hw : ∀ n ∈ x.1.weights Try.prog 31, n ≤ reachBytes) : ∃ ts, Twgs w v ts ∧ ts.length ≤ 35184372088832 := by
  rw [hv] at h
  have hR : reachBytes = 140737488351232 := rfl
  rcases open_slice Try.underlying31 h with ⟨hcs, _⟩ | ⟨a, len, cap, m, n, D, Pl, hcs, hb, hl, hm, hmm, hx, hi⟩
  · obtain rfl : v = .slice none 0 0 := by simpa using hcs
    exact ⟨[], ⟨none, 0, rfl, Nat.le_refl _, by simp, fun _ => rfl, rfl, fun h => by simp at h⟩, by simp⟩
  · obtain rfl : v = .slice (some a) len cap := by simpa using hcs
    have hlm : len ≤ m := by rw [hmm]; split <;> omega
    have hC : Try.prog.cellsOf 61 = 5 := by kernel_rfl
    have hB : Try.prog.bytesOf 61 = 40 := by kernel_rfl
    subst hx
    have hlen : len ≤ 35184372088832 := by
      have := hw ((len + (m - len)) * 40) (by
        simp only [DataW.weights, Try.underlying31, List.mem_cons, List.mem_append, List.length_map, List.length_range, hB]
        exact .inl trivial)
      omega
    rw [hC] at hi
    obtain ⟨ts, h1, h2⟩ := choose_list len (fun i (t : Twg) => ∀ j (hj : j < 5), w.cell? ((a.add (i * 5)).add j) = some (t.cells[j]'hj)) (fun i hil => by
      obtain ⟨cs', hc, ht'⟩ := hi i (by omega)
      exact twig_of_trod hc ht')
    subst h1
    refine ⟨ts, ⟨some a, cap, rfl, hl, hm, by simp, twgs_len ts, fun hn => ⟨a, rfl, fun j u hu => ?_⟩⟩, hlen⟩
    have hj : j < ts.length * 5 := by rw [← twgs_len ts]; exact (List.getElem?_eq_some_iff.1 hu).1
    have hk : j / 5 < ts.length := by omega
    have e : j / 5 * 5 + j % 5 = j := by omega
    have h3 := h2 (j / 5) hk (j % 5) (by omega)
    rw [← e, twg_at ts (j / 5) hk (j % 5) (by omega), List.getElem?_eq_getElem (show j % 5 < (ts[j / 5]).cells.length from by show j % 5 < 5; omega)] at hu
    rw [Go.Deep.add_add, e] at h3
    rw [h3]
    exact hu
set_option maxRecDepth 100000 in
/-- a slice of deeds that came in -/
theorem deeds_of_trod {fuel : Nat} {v : Value} {x : DataW H × List MemPlace} (hv : v.cells.toList = [v]) (h : DataW.trod enc Try.prog w base spare held fuel 22 v.cells.toList = some x)
    (hw : ∀ n ∈ x.1.weights Try.prog 22, n ≤ reachBytes) : ∃ ds, Deeds w v ds := by
  rw [hv] at h
  have hR : reachBytes = 140737488351232 := rfl
  rcases open_slice Try.underlying22 h with ⟨hcs, _⟩ | ⟨a, len, cap, m, n, D, Pl, hcs, hb, hl, hm, hmm, hx, hi⟩
  · obtain rfl : v = .slice none 0 0 := by simpa using hcs
    exact ⟨[], none, 0, rfl, Nat.le_refl _, by simp, by simp, by simp, fun h => by simp at h⟩
  · obtain rfl : v = .slice (some a) len cap := by simpa using hcs
    have hlm : len ≤ m := by rw [hmm]; split <;> omega
    have hC : Try.prog.cellsOf 33 = 6 := by kernel_rfl
    have hB : Try.prog.bytesOf 33 = 64 := by kernel_rfl
    subst hx
    have hwx : ∀ n, n = (len + (m - len)) * 64 ∨ (∃ i, i < len ∧ n ∈ (D i).weights Try.prog 33) → n ≤ reachBytes := by
      intro n hn
      refine hw n ?_
      simp only [DataW.weights, Try.underlying22, List.mem_cons, List.mem_append, List.length_map, List.length_range, hB]
      rcases hn with hn | ⟨i, hil, hn⟩
      · exact .inl hn
      · exact .inr (.inl (weightsAll_mem (List.mem_map.2 ⟨i, List.mem_range.2 hil, rfl⟩) hn))
    have hlen : len ≤ 35184372088832 := by
      have := hwx _ (.inl rfl)
      omega
    rw [hC] at hi
    obtain ⟨ds, h1, h2⟩ := choose_list len (fun i (s : Dd) => (i64 s.end_ ∧ s.tree.length ≤ 35184372088832) ∧ ∃ tv, w.cell? (a.add (i * 6)) = some (.int .i64 s.what) ∧ w.cell? (a.add (i * 6 + 1)) = some (.int .i64 s.rule) ∧ w.cell? (a.add (i * 6 + 2)) = some (.int .i64 s.place) ∧
        w.cell? (a.add (i * 6 + 3)) = some (.int .i64 s.end_) ∧ w.cell? (a.add (i * 6 + 4)) = some (.int .i64 s.level) ∧ w.cell? (a.add (i * 6 + 5)) = some tv ∧ Twgs w tv s.tree) (fun i hil => by
      obtain ⟨cs', hc, ht'⟩ := hi i (by omega)
      obtain ⟨ys, n', hn', hy, hlen', hyl, hf⟩ := DataW.trod_struct Try.underlying33 ht'
      obtain ⟨_, hcl, hat⟩ := World.cells?_some hc
      match cs', hcl with
      | [c0, c1, c2, c3, c4, c5], _ =>
        have k3 : Try.prog.cellsOf 3 = 1 := by kernel_rfl
        have k4 : Try.prog.cellsOf 31 = 1 := by kernel_rfl
        have f0 : DataW.trod enc Try.prog w base spare held n' 3 ((List.drop 0 [c0, c1, c2, c3, c4, c5]).take (Try.prog.cellsOf 3)) = ys[0]? := hf 0 _ rfl
        have f1 : DataW.trod enc Try.prog w base spare held n' 3 ((List.drop 1 [c0, c1, c2, c3, c4, c5]).take (Try.prog.cellsOf 3)) = ys[1]? := hf 1 _ rfl
        have f2 : DataW.trod enc Try.prog w base spare held n' 3 ((List.drop 2 [c0, c1, c2, c3, c4, c5]).take (Try.prog.cellsOf 3)) = ys[2]? := hf 2 _ rfl
        have f3 : DataW.trod enc Try.prog w base spare held n' 3 ((List.drop 3 [c0, c1, c2, c3, c4, c5]).take (Try.prog.cellsOf 3)) = ys[3]? := hf 3 _ rfl
        have f4 : DataW.trod enc Try.prog w base spare held n' 3 ((List.drop 4 [c0, c1, c2, c3, c4, c5]).take (Try.prog.cellsOf 3)) = ys[4]? := hf 4 _ rfl
        have f5 : DataW.trod enc Try.prog w base spare held n' 31 ((List.drop 5 [c0, c1, c2, c3, c4, c5]).take (Try.prog.cellsOf 31)) = ys[5]? := hf 5 _ rfl
        have e0 := hat 0 (by omega)
        have e1 := hat 1 (by omega)
        have e2 := hat 2 (by omega)
        have e3 := hat 3 (by omega)
        have e4 := hat 4 (by omega)
        have e5 := hat 5 (by omega)
        rw [k3] at f0 f1 f2 f3 f4
        rw [k4] at f5
        rw [Go.Deep.add_add] at e0 e1 e2 e3 e4 e5
        have hyl' : ys.length = 6 := hyl
        match ys, hyl' with
        | [y0, y1, y2, y3, y4, y5], _ =>
          obtain ⟨n0, h0, _, _⟩ := DataW.trod_int Try.underlying3 f0
          obtain ⟨n1, h1, _, _⟩ := DataW.trod_int Try.underlying3 f1
          obtain ⟨n2, h2, _, _⟩ := DataW.trod_int Try.underlying3 f2
          obtain ⟨n3, h3, _, w3⟩ := DataW.trod_int Try.underlying3 f3
          obtain ⟨n4, h4, _, _⟩ := DataW.trod_int Try.underlying3 f4
          obtain rfl : c0 = .int .i64 n0 := (List.cons.inj h0).1
          obtain rfl : c1 = .int .i64 n1 := (List.cons.inj h1).1
          obtain rfl : c2 = .int .i64 n2 := (List.cons.inj h2).1
          obtain rfl : c3 = .int .i64 n3 := (List.cons.inj h3).1
          obtain rfl : c4 = .int .i64 n4 := (List.cons.inj h4).1
          have f5' : DataW.trod enc Try.prog w base spare held n' 31 [c5] = some y5 := f5
          have hD : (D i).weights Try.prog 33 = DataW.weightsEach Try.prog [3, 3, 3, 3, 3, 31] [y0.1, y1.1, y2.1, y3.1, y4.1, y5.1] := by
            have e : D i = .agg [y0.1, y1.1, y2.1, y3.1, y4.1, y5.1] := congrArg Prod.fst hy
            rw [e]
            simp only [DataW.weights, Try.underlying33]
            rfl
          have hw5 : ∀ n ∈ y5.1.weights Try.prog 31, n ≤ reachBytes := fun n hn => hwx n (.inr ⟨i, hil, by rw [hD]; exact DataW.weights_mem_each (j := 5) rfl rfl n hn⟩)
          have hsl : c5.cells.toList = [c5] := by
            rcases open_slice Try.underlying31 f5' with ⟨hcs, _⟩ | ⟨_, _, _, _, _, _, _, hcs, _⟩
            · obtain rfl : c5 = .slice none 0 0 := by simpa using hcs
              rfl
            · obtain ⟨rfl⟩ : c5 = _ := by simpa using hcs
              rfl
          obtain ⟨ts, hts, htl⟩ := twigs_of_trod hsl (by rw [hsl]; exact f5') hw5
          exact ⟨⟨n0, n1, n2, n3, n4, ts⟩, ⟨i64_of_wf w3, htl⟩, c5, e0, e1, e2, e3, e4, e5, hts⟩)
    subst h1
    refine ⟨ds, some a, cap, rfl, hl, hm, hlen, fun d hd => ?_, fun hn => ?_⟩
    · obtain ⟨i, hi', rfl⟩ := List.getElem_of_mem hd
      exact (h2 i hi').1
    · obtain ⟨ab, ao, asp⟩ := a
      have hs : asp = none := by
        obtain ⟨_, _, g, _⟩ := h2 0 hn
        simpa [Addr.add] using World.cell?_spot g
      subst hs
      obtain ⟨_, _, g, _⟩ := h2 0 hn
      refine ⟨ab, ao, rfl, World.block_lt_of_cell? w _ g, fun k hk => ?_⟩
      have := (h2 k hk).2
      rw [Addr.add_lit, Addr.add_lit, Addr.add_lit, Addr.add_lit, Addr.add_lit, Addr.add_lit, ← Nat.add_assoc, ← Nat.add_assoc, ← Nat.add_assoc, ← Nat.add_assoc, ← Nat.add_assoc] at this
      exact this
end
end Go.Proofs.Ytchmlhceidociaa
