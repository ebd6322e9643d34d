/- Reading: what stands above is tainted, and involved. -/
import Derived.Test.YtjmidomcgaijjaaEnter
namespace Go.Proofs.Ytjmidomcgaijjaa
set_option linter.unusedVariables false
open Go.RowKit

def taint (f : Fr) : Fr := { f with tainted := true }

/-- The frames' row, when there are any. -/
theorem StkC.head {w : World} {p : Nat} {v : Value} {cs : List FrC} (h : StkC w p v cs) (h0 : 0 < cs.length) : ∃ g cap cur, v = .slice (some ⟨g, 0, none⟩) cs.length cap ∧
    w.heap[g]? = some (.cells cur 83 (0, 0)) ∧ cs.length ≤ cap ∧ cap ≤ maxLen ∧ cur.size = cap * 5 ∧ cur.toList.take (cs.length * 5) = rowOf cs ∧ g < w.heap.size ∧ g ≠ p ∧ g ∉ mapsOf cs := by
  rcases h.row.2 with ⟨_, hz⟩ | ⟨g, cap, cur, rfl, _, hg, h1, h2, h3, h4⟩
  · omega
  · refine ⟨g, cap, cur, rfl, hg, h1, h2, h3, h4, lt_of_some hg, fun e => Blk.ne_ (t := 83) hg h.blk (by decide) e, fun hm => ?_⟩
    obtain ⟨c, hc, hm⟩ := List.mem_flatMap.1 hm
    have hs := h.sets c hc
    simp at hm
    rcases hm with rfl | rfl
    · obtain ⟨_, _, e, _⟩ := hs.1; exact map_ne_cells hg e rfl
    · obtain ⟨_, _, e, _⟩ := hs.2; exact map_ne_cells hg e rfl
theorem StkC.cells0 {w : World} {p : Nat} {v : Value} {cs : List FrC} (h : StkC w p v cs) {g cap n : Nat} (hv : v = .slice (some ⟨g, 0, none⟩) n cap) {k : Nat} (hk : k < cs.length) : FrCells w g (k * 5) cs[k] := by
  obtain ⟨A, c, e, _, _, _, hc⟩ := h.reads.frame
  obtain ⟨b, o, rfl, _, hf⟩ := hc (by omega)
  rw [hv] at e
  injection e with e _ _
  injection e with e
  injection e with e1 e2 _
  subst e1 e2
  have := hf k hk
  rwa [Nat.zero_add] at this

theorem rowOf_setcell {cs : List FrC} {k : Nat} (hk : k < cs.length) : rowOf (cs.set k (cs[k].up taint)) = (rowOf cs).set (k * 5 + 4) (.bool true) := by
  induction cs generalizing k with
  | nil => simp at hk
  | cons c cs ih =>
    have hl : c.cells.length = 5 := rfl
    unfold rowOf at ih ⊢
    cases k with
    | zero => rw [List.set_cons_zero, List.flatMap_cons, List.flatMap_cons, List.set_append_left _ _ (by omega)]; rfl
    | succ k =>
      rw [List.set_cons_succ, List.flatMap_cons, List.flatMap_cons, List.set_append_right _ _ (by omega), show (k + 1) * 5 + 4 - c.cells.length = k * 5 + 4 by omega]
      rw [← ih (show k < cs.length by simpa using hk)]
      rfl

/-- An activation has been tainted. -/
theorem StkC.set_tainted {w : World} {p : Nat} {v : Value} {cs : List FrC} (h : StkC w p v cs) {g cap n : Nat} (hv : v = .slice (some ⟨g, 0, none⟩) n cap) {k : Nat} (hk : k < cs.length) :
    StkC (w.setCell ⟨g, k * 5 + 4, none⟩ (.bool true)) p v (cs.set k (cs[k].up taint)) := by
  obtain ⟨g', cap', cur, e, hg, h1, h2, h3, h4, _, hgp, hgm⟩ := h.head (by omega)
  have hu := setCell_upd w g (k * 5 + 4) (.bool true)
  have he : g' = g := by rw [hv] at e; injection e with e _ _; injection e with e; injection e with e1 _ _; exact e1.symm
  subst he
  refine ⟨h.blk.keep hu hgp.symm, ?_, ?_, by rw [mapsOf_set hk] <;> first | exact h.nodup | rfl⟩
  · have hlen : (rowOf cs).length = cs.length * 5 := rowOf_length cs
    refine ⟨by rw [rowOf_setcell hk, List.length_set, List.length_set, hlen], .inr ⟨g', cap', cur.setIfInBounds (k * 5 + 4) (.bool true), by rw [e, List.length_set], Nat.zero_le _, ?_, by rw [List.length_set]; exact h1, h2, by simpa using h3, ?_⟩⟩
    · simp [World.setCell, Array.getElem?_modify, hg]
    · rw [rowOf_setcell hk, List.length_set, Array.toList_setIfInBounds, List.take_set, h4]
  · intro c hc
    obtain ⟨j, hj, rfl⟩ := List.getElem_of_mem hc
    rw [List.length_set] at hj
    have hs := h.sets _ (List.getElem_mem hj)
    have hm := mem_maps (List.getElem_mem hj)
    have hs' : SetAt (w.setCell ⟨g', k * 5 + 4, none⟩ (.bool true)) cs[j].mt cs[j].f.touched ∧ SetAt (w.setCell ⟨g', k * 5 + 4, none⟩ (.bool true)) cs[j].mv cs[j].f.involved :=
      ⟨hs.1.keep hu (fun e => hgm (e ▸ hm.1)), hs.2.keep hu (fun e => hgm (e ▸ hm.2))⟩
    by_cases hjk : j = k
    · subst hjk
      simp only [List.getElem_set_self]
      exact hs'
    · rw [List.getElem_set_ne (Ne.symm hjk)]
      exact hs'

/-- what the m-th step of a reading of activation k leaves of activation j -/
def readAt (k : Nat) (rules : List Int) (m j : Nat) (f : Fr) : Fr :=
  if j = k then { f with involved := insAll ((rules.drop (k + 1)).take (m - (k + 1))) f.involved } else if k < j ∧ j < m then taint f else f
def FrC.readAt (k : Nat) (rules : List Int) (m j : Nat) (c : FrC) : FrC := c.up (Ytjmidomcgaijjaa.readAt k rules m j)
def rulesOf (l : List Fr) : List Int := l.map (·.rule)
def readTo (cs : List FrC) (k m : Nat) : List FrC := cs.mapIdx (FrC.readAt k (rulesOf (frs cs)) m)
theorem readTo_length (cs : List FrC) (k m : Nat) : (readTo cs k m).length = cs.length := by simp [readTo]
theorem readTo_at (cs : List FrC) (k m j : Nat) (h : j < cs.length) : (readTo cs k m)[j]'(by rw [readTo_length]; exact h) = FrC.readAt k (rulesOf (frs cs)) m j cs[j] := by simp [readTo]
theorem readTo_zero (cs : List FrC) (k : Nat) : readTo cs k (k + 1) = cs := by
  apply List.ext_getElem (readTo_length cs k _)
  intro j h1 h2
  rw [readTo_at cs k _ j h2]
  unfold FrC.readAt FrC.up readAt
  split
  · simp [insAll]
  · rw [if_neg (by omega)]
theorem readTo_succ (cs : List FrC) (k m : Nat) (hk : k < m) (hm : m < cs.length) :
    readTo cs k (m + 1) = ((readTo cs k m).set m (cs[m].up taint)).set k ((FrC.readAt k (rulesOf (frs cs)) m k (cs[k]'(by omega))).up fun f => { f with involved := ins (cs[m]).f.rule f.involved }) := by
  apply List.ext_getElem
  · simp [readTo_length]
  intro j h1 h2
  rw [readTo_length] at h1
  rw [readTo_at cs k _ j h1]
  by_cases hjk : j = k
  · subst hjk
    rw [List.getElem_set_self]
    unfold FrC.readAt FrC.up readAt
    rw [if_pos rfl, if_pos rfl]
    have e : ((rulesOf (frs cs)).drop (j + 1)).take (m + 1 - (j + 1)) = ((rulesOf (frs cs)).drop (j + 1)).take (m - (j + 1)) ++ [cs[m].f.rule] := by
      rw [show m + 1 - (j + 1) = (m - (j + 1)) + 1 by omega, List.take_succ_eq_append_getElem (by simp [rulesOf, frs]; omega)]
      have hidx : j + 1 + (m - (j + 1)) = m := by omega
      simp [rulesOf, frs, hidx]
    simp only [e]
    simp [insAll]
  · rw [List.getElem_set_ne (Ne.symm hjk)]
    by_cases hjm : j = m
    · subst hjm
      rw [List.getElem_set_self]
      unfold FrC.readAt FrC.up readAt
      rw [if_neg hjk, if_pos ⟨hk, by omega⟩]
    · rw [List.getElem_set_ne (Ne.symm hjm), readTo_at cs k m j h1]
      unfold FrC.readAt FrC.up readAt
      rw [if_neg hjk, if_neg hjk]
      by_cases h : k < j ∧ j < m
      · rw [if_pos h, if_pos ⟨h.1, by omega⟩]
      · rw [if_neg h, if_neg (fun h' => h ⟨h'.1, by omega⟩)]

theorem mapsOf_readTo (cs : List FrC) (k m : Nat) : mapsOf (readTo cs k m) = mapsOf cs := by
  have : ∀ (l : List FrC) (F : Nat → FrC → FrC) (hF : ∀ j c, (F j c).mt = c.mt ∧ (F j c).mv = c.mv), mapsOf (l.mapIdx F) = mapsOf l := by
    intro l
    induction l with
    | nil => intro F _; rfl
    | cons c l ih =>
      intro F hF
      unfold mapsOf at ih ⊢
      rw [List.mapIdx_cons, List.flatMap_cons, List.flatMap_cons, ih _ (fun j c => hF (j + 1) c), (hF 0 c).1, (hF 0 c).2]
  exact this cs _ (fun j c => ⟨rfl, rfl⟩)
theorem frs_readTo (cs : List FrC) (k m : Nat) : frs (readTo cs k m) = (frs cs).mapIdx (readAt k (rulesOf (frs cs)) m) := by
  apply List.ext_getElem
  · simp [frs, readTo]
  · intro j h1 h2
    have hj : j < cs.length := by simpa [frs, readTo] using h1
    simp [frs, readTo, FrC.readAt, FrC.up]
/-- a stack in which activation k has been read -/
def readA (l : List Fr) (k : Nat) (r pl : Int) : List Fr := (l.mapIdx (readAt k (rulesOf l) l.length)).map (touchF pl [r])

set_option maxRecDepth 100000 in
set_option maxHeartbeats 800000 in
theorem read_none (cs : List FrC) (v : Value) (r pl : Int) (p : Nat) (w : World) (hs : StkC w p v cs) (hpos : posOf (isPair r pl) (frs cs) < 0) :
    Calls Try.prog 23 #[.pointer (some ⟨p, 0, none⟩), .int .i64 r, .int .i64 pl] w fun e w' => e = .returned (.int .i64 5) ∧ Below w.heap.size w w' := by
  have HI := Lib.hid (is_any p w hs.c0)
  have HA := Lib.hid (at_any cs v r pl p w hs)
  generalize posOf (isPair r pl) (frs cs) = q at *
  clear hs
  go_enter Try.func23, Try.ntmps23
  go_wp2_with (first
    | (go_at_call 39; refine HI.out.mono ?_; rintro e w1 ⟨rfl, rfl⟩)
    | (go_at_call 40; refine HA.out.mono ?_; rintro e w1 ⟨rfl, hb1⟩))
  go_ret
  exact ⟨rfl, hb1⟩

set_option maxRecDepth 100000 in
set_option maxHeartbeats 1200000 in
theorem read_ok (cs : List FrC) (v : Value) (r pl : Int) (p : Nat) (w : World) (hs : StkC w p v cs) (k : Nat) (hk : k < cs.length) (hpos : posOf (isPair r pl) (frs cs) = (k : Int)) :
    Calls Try.prog 23 #[.pointer (some ⟨p, 0, none⟩), .int .i64 r, .int .i64 pl] w fun e w' => e = .returned (.int .i64 0) ∧
      ∃ cs', StkC w' p v cs' ∧ frs cs' = readA (frs cs) k r pl ∧ mapsOf cs' = mapsOf cs ∧ Upd (Foot p v cs) w w' := by
  have HI := Lib.hid (is_any p w hs.c0)
  have A := at_any cs v r pl p w hs
  rw [hpos] at A
  have HA := Lib.hid A
  obtain ⟨g, cap, cur, rfl, hg, hc, hm, _, _, hgl, hgp, hgm⟩ := hs.head (by omega)
  unfold maxLen at hm
  have HS := Lib.hid hs
  clear A hpos hs hg
  go_enter Try.func23, Try.ntmps23
  go_wp2_with (first
    | (go_at_call 39; refine HI.out.mono ?_; rintro e w1 ⟨rfl, rfl⟩)
    | (go_at_call 40; refine HA.out.mono ?_; rintro e w1 ⟨rfl, hb1⟩; have hc1 := (HS.out.ext hb1).c1; have hp1 := (HS.out.ext hb1).lt; obtain ⟨g0, g1, g2, g3, g4⟩ := (HS.out.ext hb1).cells0 rfl hk))
  clear hc1 g0 g1 g2 g3 g4
  have HG := Lib.hid (And.intro hgp hgm)
  clear hgp hgm
  go_loopw [9] (fun i wr => ∃ m : Nat, k < m ∧ m ≤ cs.length ∧ i = .int .i64 m ∧ StkC wr p (.slice (some ⟨g, 0, none⟩) cs.length cap) (readTo cs k m) ∧ Upd (Foot p (.slice (some ⟨g, 0, none⟩) cs.length cap) cs) w wr) (fun i _ => cs.length - (intOf i).toNat)
  case atStart => exact ⟨k + 1, by omega, by omega, by go_num, by rw [readTo_zero]; exact HS.out.ext hb1, Upd.of_ext hb1⟩
  case round =>
    obtain ⟨m, hkm, hmn, rfl, hsm, hu⟩ := hrel
    have hc1 := hsm.c1
    have hp1 := hsm.lt
    have HSM := Lib.hid hsm
    by_cases hlt : m < cs.length
    · have hm' : m < (readTo cs k m).length := by rw [readTo_length]; exact hlt
      have hk' : k < (readTo cs k m).length := by rw [readTo_length]; exact hk
      have hgm : (readTo cs k m)[m]'hm' = cs[m] := by
        rw [readTo_at cs k m m hlt]; unfold FrC.readAt FrC.up readAt
        rw [if_neg (by omega), if_neg (by omega)]
      have hgk : (readTo cs k m)[k]'hk' = FrC.readAt k (rulesOf (frs cs)) m k cs[k] := readTo_at cs k m k hk
      obtain ⟨g0, g1, g2, g3, g4⟩ := hsm.cells0 (cs := readTo cs k m) rfl hm'
      rw [hgm] at g0 g1 g2 g3 g4
      have hgl' : g < wr.heap.size := Nat.lt_of_lt_of_le hgl hu.size
      have hfz : wr.frozen? ⟨g, m * 5 + 4, none⟩ = false := by
        obtain ⟨g', _, _, e, hg', _⟩ := hsm.head (by omega)
        injection e with e _ _
        injection e with e
        injection e with e _ _
        subst e
        simp [World.frozen?, hg']
      have S1 := hsm.set_tainted rfl hm'
      rw [hgm] at S1
      have hu1 : Upd (Foot p (.slice (some ⟨g, 0, none⟩) cs.length cap) cs) w (wr.setCell ⟨g, m * 5 + 4, none⟩ (.bool true)) := hu.setCell (p := ⟨g, m * 5 + 4, none⟩) (fun _ => .inr (.inl rfl)) _
      have HU1 := Lib.hid hu1
      have c1' : (wr.setCell ⟨g, m * 5 + 4, none⟩ (.bool true)).cell? ⟨p, 1, none⟩ = some (.slice (some ⟨g, 0, none⟩) cs.length cap) := S1.c1
      have k1 : k < ((readTo cs k m).set m (cs[m].up taint)).length := by rw [List.length_set]; exact hk'
      have hgk1 : ((readTo cs k m).set m (cs[m].up taint))[k]'k1 = FrC.readAt k (rulesOf (frs cs)) m k cs[k] := by
        rw [List.getElem_set_ne (by omega)]; exact hgk
      have m1 : m < ((readTo cs k m).set m (cs[m].up taint)).length := by rw [List.length_set]; exact hm'
      have hgm1 : ((readTo cs k m).set m (cs[m].up taint))[m]'m1 = cs[m].up taint := by simp
      obtain ⟨e0, e1, e2, e3, e4⟩ := S1.cells0 rfl m1
      rw [hgm1] at e0 e1 e2 e3 e4
      have HS1 := Lib.hid S1
      have HK1 := Lib.hid hgk1
      have hsu := readTo_succ cs k m hkm hlt
      have HSU := Lib.hid hsu
      clear hgm hgk S1 hu1 hgk1 hgm1 hsm hsu hu
      have P := put_any cs[k].mv (FrC.readAt k (rulesOf (frs cs)) m k cs[k]).f.involved [cs[m].f.rule] (.slice (some ⟨wr.heap.size, 0, none⟩) 1 1) ((wr.setCell ⟨g, m * 5 + 4, none⟩ (.bool true)).alloc (.cells #[.int .i64 cs[m].f.rule] 3))
        (by
          have := (HS1.out.sets _ (List.getElem_mem k1)).2
          rw [HK1.out] at this
          exact this.ext ((ext_refl _).alloc (Nat.le_refl _) _))
        ⟨_, _, rfl, Nat.le_refl _, by simp [maxLen], by simp, rfl, fun _ => ⟨_, rfl, cells_newA _ _ [.int .i64 cs[m].f.rule] _ (by simp [World.setCell]) _ rfl⟩⟩
      have HP := Lib.hid P
      clear P
      go_wp2_with (first
        | (go_at_call 51; refine HP.out.mono ?_; rintro e w3 ⟨rfl, hs3, hu3, hz3⟩))
      clear hz3
      go_roundw
      case rel =>
        have hx := (HS1.out.ext ((ext_refl _).alloc (Nat.le_refl _) (.cells #[.int .i64 cs[m].f.rule] 3)))
        have hy := hx.set_involved k1 (w1 := w3) (new := ins cs[m].f.rule (FrC.readAt k (rulesOf (frs cs)) m k cs[k]).f.involved) (by rw [HK1.out]; exact hu3) (by rw [HK1.out]; exact hs3)
        rw [HK1.out] at hy
        refine ⟨m + 1, by omega, by omega, by go_num, by rw [HSU.out]; exact hy, ?_⟩
        exact (HU1.out.alloc _).trans (hu3.mono fun i _ e => by subst e; exact .inr (.inr (mem_maps (List.getElem_mem hk)).2))
      case measure => simp [intOf]; omega
    · have hmm : m = cs.length := by omega
      have HM := Lib.hid hmm
      clear hmm hsm
      go_wp2_with (first
        | (go_at_call 47; refine (touch_any _ _ _ [r] pl p _ (HSM.out.ext ((ext_refl _).alloc (Nat.le_refl _) _)) ⟨_, _, rfl, Nat.le_refl _, by simp [maxLen], by simp, rfl, fun _ => ⟨_, rfl, cells_newA _ _ [.int .i64 r] _ (by simp) _ rfl⟩⟩).mono ?_; rintro e w3 ⟨rfl, hs3, hu3, hz3⟩))
      go_ret
      have hM := HM.out
      subst hM
      refine ⟨rfl, _, hs3, ?_, ?_, ?_⟩
      · rw [frs_up, frs_readTo]
        unfold readA
        rw [show (frs cs).length = cs.length by simp [frs]]
      · have e := mapsOf_up (readTo cs k cs.length) (readTo cs k cs.length).length (touchF pl [r])
        rw [mapTo_all] at e
        rw [e, mapsOf_readTo]
      · rw [mapsOf_readTo] at hu3
        exact (hu.alloc _).trans (hu3.mono fun i _ hm => .inr (.inr hm))
end Go.Proofs.Ytjmidomcgaijjaa
