/- What was done, as rows of numbers; the functions that read them. -/
import Derived.Test.YtjmidomcgaijjaaAwake
import Derived.BigQuiet
namespace Go.Proofs.Ytjmidomcgaijjaa
set_option linter.unusedVariables false
open Go.RowKit

/-- a row of rows of numbers, each of sz -/
def Tab (w : World) (t : TypeId) (sz : Nat) (v : Value) (rows : List (List Int)) : Prop :=
  w.ownsRow 0 t sz v rows.length (rows.flatMap fun r => r.map (Value.int .i64)) ∧ ∀ r ∈ rows, r.length = sz
theorem flat_at (sz : Nat) : ∀ (rows : List (List Int)) (hr : ∀ r ∈ rows, r.length = sz) (k j : Nat) (hk : k < rows.length) (hj : j < sz),
    (rows.flatMap fun r => r.map (Value.int .i64))[k * sz + j]? = some (.int .i64 ((rows[k]).getD j 0))
  | [], _, k, _, hk, _ => by simp at hk
  | r :: rows, hr, 0, j, _, hj => by
    have := hr r (by simp)
    rw [List.flatMap_cons, List.getElem?_append_left (by simp; omega)]
    simp [List.getD, show j < r.length by omega]
  | r :: rows, hr, k + 1, j, hk, hj => by
    have h1 := hr r (by simp)
    have e : (k + 1) * sz = sz + k * sz := by rw [Nat.add_mul, Nat.one_mul, Nat.add_comm]
    rw [List.flatMap_cons, List.getElem?_append_right (by simp; omega)]
    have h2 : (k + 1) * sz + j - (r.map (Value.int .i64)).length = k * sz + j := by simp [h1, e]; omega
    rw [h2, flat_at sz rows (fun x hx => hr x (by simp [hx])) k j (by simpa using hk) hj]
    rfl
theorem Tab.form {w : World} {t : TypeId} {sz : Nat} {v : Value} {rows : List (List Int)} (h : Tab w t sz v rows) :
    ∃ A c, v = .slice A rows.length c ∧ rows.length ≤ c ∧ c ≤ maxLen ∧ (A = none → c = 0) ∧
      (0 < rows.length → ∃ g, A = some ⟨g, 0, none⟩ ∧ g < w.heap.size ∧ ∀ k j, (hk : k < rows.length) → j < sz → w.cell? ⟨g, k * sz + j, none⟩ = some (.int .i64 ((rows[k]).getD j 0))) := by
  obtain ⟨h0, hr⟩ := h
  rcases h0.2 with ⟨rfl, h1⟩ | ⟨g, cap, cur, rfl, hb, hg, h1, h2, h3, h4⟩
  · exact ⟨none, 0, by rw [h1], by omega, by simp, fun _ => rfl, fun h => by omega⟩
  · refine ⟨some ⟨g, 0, none⟩, cap, rfl, h1, h2, by simp, fun hn => ⟨g, rfl, lt_of_some hg, fun k j hk hj => ?_⟩⟩
    have e : (Value.slice (some ⟨g, 0, none⟩) rows.length cap) = .slice (some ⟨g, 0, none⟩) rows.length cap := rfl
    have := (World.ownsRow.cells h0 rfl) (k * sz + j) _ (flat_at sz rows hr k j hk hj)
    rw [Addr.add_lit, Nat.zero_add] at this
    exact this
theorem Tab.keep {w w' : World} {t : TypeId} {sz : Nat} {v : Value} {rows : List (List Int)} {S : Nat → Prop} (h : Tab w t sz v rows) (hu : Upd S w w') (hn : ∀ k, v.ownBlock = some k → ¬ S k) : Tab w' t sz v rows :=
  ⟨ownsRow_keep h.1 hu hn, h.2⟩
theorem Tab.nil (w : World) (t : TypeId) (sz : Nat) : Tab w t sz (.slice none 0 0) [] := ⟨World.ownsRow_nil _ _ _ _, by simp⟩

structure St where
  rule : Int
  place : Int
  since : Int
structure Rd where
  step : Int
  at_ : Int
structure Tc where
  step : Int
  rule : Int
  place : Int
def St.row (s : St) : List Int := [s.rule, s.place, s.since]
def Rd.row (s : Rd) : List Int := [s.step, s.at_]
def Tc.row (s : Tc) : List Int := [s.step, s.rule, s.place]
structure Hist where
  l : List St
  reads : List Rd
  touches : List Tc

/-- q leads to what was done -/
structure HisC (w : World) (q p : Nat) (vl vr vt : Value) (H : Hist) : Prop where
  blk : Blk w q 31 #[.pointer (some ⟨p, 0, none⟩), vl, vr, vt, .int .i64 0]
  l : Tab w 40 3 vl (H.l.map St.row)
  reads : Tab w 37 2 vr (H.reads.map Rd.row)
  touches : Tab w 87 3 vt (H.touches.map Tc.row)
def HFoot (q : Nat) (vl vr vt : Value) (k : Nat) : Prop := k = q ∨ vl.ownBlock = some k ∨ vr.ownBlock = some k ∨ vt.ownBlock = some k

section
variable {w : World} {q p : Nat} {vl vr vt : Value} {H : Hist}
theorem HisC.c0 (h : HisC w q p vl vr vt H) : w.cell? ⟨q, 0, none⟩ = some (.pointer (some ⟨p, 0, none⟩)) := by rw [h.blk.cell]; rfl
theorem HisC.c1 (h : HisC w q p vl vr vt H) : w.cell? ⟨q, 1, none⟩ = some vl := by rw [h.blk.cell]; rfl
theorem HisC.c2 (h : HisC w q p vl vr vt H) : w.cell? ⟨q, 2, none⟩ = some vr := by rw [h.blk.cell]; rfl
theorem HisC.c3 (h : HisC w q p vl vr vt H) : w.cell? ⟨q, 3, none⟩ = some vt := by rw [h.blk.cell]; rfl
theorem HisC.keep {w' : World} {S : Nat → Prop} (h : HisC w q p vl vr vt H) (hu : Upd S w w') (hn : ∀ k, HFoot q vl vr vt k → ¬ S k) : HisC w' q p vl vr vt H :=
  ⟨h.blk.keep hu (hn _ (.inl rfl)), h.l.keep hu (fun k hk => hn k (.inr (.inl hk))), h.reads.keep hu (fun k hk => hn k (.inr (.inr (.inl hk)))), h.touches.keep hu (fun k hk => hn k (.inr (.inr (.inr hk))))⟩
theorem HisC.ext {w' : World} (h : HisC w q p vl vr vt H) (hb : Below w.heap.size w w') : HisC w' q p vl vr vt H := h.keep (S := fun _ => False) (Upd.of_ext hb) (fun _ _ h => h)
theorem HisC.foot_lt (h : HisC w q p vl vr vt H) {k : Nat} (hk : HFoot q vl vr vt k) : k < w.heap.size := by
  rcases hk with rfl | hk | hk | hk
  · exact h.blk.lt
  · exact (h.l.1.lt k hk).2
  · exact (h.reads.1.lt k hk).2
  · exact (h.touches.1.lt k hk).2
end

/-- the place of the one on top -/
def nowOf (l : List St) : Int := match l.getLast? with | some s => s.place | none => 0
def isSt (r pl : Int) (s : St) : Bool := s.rule == r && s.place == pl
def hangsOf (H : Hist) (n : Nat) (since : Int) : Bool := H.reads.any fun x => decide (x.step > since) && decide (x.at_ < n)
def touchedOf (H : Hist) (since pl r : Int) : Bool := H.touches.any fun x => decide (x.step ≥ since) && x.rule == r && x.place == pl

/-- the cells of an element of each row -/
theorem HisC.lform {w : World} {q p : Nat} {vl vr vt : Value} {H : Hist} (h : HisC w q p vl vr vt H) :
    ∃ A c, vl = .slice A H.l.length c ∧ H.l.length ≤ c ∧ c ≤ maxLen ∧ (A = none → c = 0) ∧ (0 < H.l.length → ∃ g, A = some ⟨g, 0, none⟩ ∧ g < w.heap.size ∧
      ∀ k (hk : k < H.l.length), w.cell? ⟨g, k * 3, none⟩ = some (.int .i64 H.l[k].rule) ∧ w.cell? ⟨g, k * 3 + 1, none⟩ = some (.int .i64 H.l[k].place) ∧ w.cell? ⟨g, k * 3 + 2, none⟩ = some (.int .i64 H.l[k].since)) := by
  obtain ⟨A, c, e, h1, h2, h3, h4⟩ := h.l.form
  rw [List.length_map] at e h1
  refine ⟨A, c, e, h1, h2, h3, fun hn => ?_⟩
  obtain ⟨g, rfl, hg, hc⟩ := h4 (by simpa using hn)
  refine ⟨g, rfl, hg, fun k hk => ?_⟩
  have hk' : k < (H.l.map St.row).length := by simpa using hk
  have := fun j (hj : j < 3) => hc k j hk' hj
  simp only [List.getElem_map, St.row] at this
  exact ⟨this 0 (by omega), this 1 (by omega), this 2 (by omega)⟩
theorem HisC.rform {w : World} {q p : Nat} {vl vr vt : Value} {H : Hist} (h : HisC w q p vl vr vt H) :
    ∃ A c, vr = .slice A H.reads.length c ∧ H.reads.length ≤ c ∧ c ≤ maxLen ∧ (A = none → c = 0) ∧ (0 < H.reads.length → ∃ g, A = some ⟨g, 0, none⟩ ∧ g < w.heap.size ∧
      ∀ k (hk : k < H.reads.length), w.cell? ⟨g, k * 2, none⟩ = some (.int .i64 H.reads[k].step) ∧ w.cell? ⟨g, k * 2 + 1, none⟩ = some (.int .i64 H.reads[k].at_)) := by
  obtain ⟨A, c, e, h1, h2, h3, h4⟩ := h.reads.form
  rw [List.length_map] at e h1
  refine ⟨A, c, e, h1, h2, h3, fun hn => ?_⟩
  obtain ⟨g, rfl, hg, hc⟩ := h4 (by simpa using hn)
  refine ⟨g, rfl, hg, fun k hk => ?_⟩
  have hk' : k < (H.reads.map Rd.row).length := by simpa using hk
  have := fun j (hj : j < 2) => hc k j hk' hj
  simp only [List.getElem_map, Rd.row] at this
  exact ⟨this 0 (by omega), this 1 (by omega)⟩
theorem HisC.tform {w : World} {q p : Nat} {vl vr vt : Value} {H : Hist} (h : HisC w q p vl vr vt H) :
    ∃ A c, vt = .slice A H.touches.length c ∧ H.touches.length ≤ c ∧ c ≤ maxLen ∧ (A = none → c = 0) ∧ (0 < H.touches.length → ∃ g, A = some ⟨g, 0, none⟩ ∧ g < w.heap.size ∧
      ∀ k (hk : k < H.touches.length), w.cell? ⟨g, k * 3, none⟩ = some (.int .i64 H.touches[k].step) ∧ w.cell? ⟨g, k * 3 + 1, none⟩ = some (.int .i64 H.touches[k].rule) ∧ w.cell? ⟨g, k * 3 + 2, none⟩ = some (.int .i64 H.touches[k].place)) := by
  obtain ⟨A, c, e, h1, h2, h3, h4⟩ := h.touches.form
  rw [List.length_map] at e h1
  refine ⟨A, c, e, h1, h2, h3, fun hn => ?_⟩
  obtain ⟨g, rfl, hg, hc⟩ := h4 (by simpa using hn)
  refine ⟨g, rfl, hg, fun k hk => ?_⟩
  have hk' : k < (H.touches.map Tc.row).length := by simpa using hk
  have := fun j (hj : j < 3) => hc k j hk' hj
  simp only [List.getElem_map, Tc.row] at this
  exact ⟨this 0 (by omega), this 1 (by omega), this 2 (by omega)⟩

set_option maxRecDepth 100000 in
set_option maxHeartbeats 800000 in
theorem now_any (q p : Nat) (vl vr vt : Value) (H : Hist) (w : World) (h : HisC w q p vl vr vt H) :
    Calls Try.prog 58 #[.pointer (some ⟨q, 0, none⟩)] w fun e w' => e = .returned (.int .i64 (nowOf H.l)) ∧ ∃ n, w' = w.drewN n := by
  have h1 := h.c1
  have hp := h.blk.lt
  obtain ⟨A, c, rfl, hc, hm, _, hcells⟩ := h.lform
  unfold maxLen at hm
  rcases List.eq_nil_or_concat H.l with he | ⟨l', x, he⟩
  · have hr : nowOf H.l = 0 := by rw [he]; rfl
    have h1' : w.cell? ⟨q, 1, none⟩ = some (.slice A 0 c) := by rw [h1, he]; rfl
    have HR := Lib.hid hr
    clear hcells h h1 hr
    go_enter Try.func58, Try.ntmps58
    go_wp2
    go_ret
    exact ⟨ret_int HR.out.symm, 0, rfl⟩
  · rw [List.concat_eq_append] at he
    have hl : H.l.length = l'.length + 1 := by rw [he]; simp
    obtain ⟨g, rfl, hg, hcell⟩ := hcells (by omega)
    obtain ⟨g0, g1, g2⟩ := hcell l'.length (by omega)
    have hx : H.l[l'.length]'(by omega) = x := by simp [he]
    rw [hx] at g0 g1 g2
    have hr : nowOf H.l = x.place := by rw [he]; simp [nowOf]
    have HR := Lib.hid hr
    rw [hl] at h1 hc
    have hne : (((l'.length + 1 : Nat) : Int) == 0) = false := by simp; omega
    clear hcells hcell h hx hr he hl
    go_enter Try.func58, Try.ntmps58
    go_wp2
    go_quiet (fail)
    go_wp2
    go_ret
    exact ⟨ret_int HR.out.symm, _, rfl⟩

set_option maxRecDepth 100000 in
set_option maxHeartbeats 800000 in
theorem where_any (q p : Nat) (vl vr vt : Value) (H : Hist) (r pl : Int) (w : World) (h : HisC w q p vl vr vt H) :
    Calls Try.prog 16 #[.pointer (some ⟨q, 0, none⟩), .int .i64 r, .int .i64 pl] w fun e w' => e = .returned (.int .i64 (posOf (isSt r pl) H.l)) ∧ w = w' := by
  have h1 := h.c1
  have hp := h.blk.lt
  obtain ⟨A, c, rfl, hc, hm, _, hcells⟩ := h.lform
  unfold maxLen at hm
  clear h
  go_enter Try.func16, Try.ntmps16
  go_wp2
  go_loopw [7] (fun i wr => ∃ k : Nat, k ≤ H.l.length ∧ i = .int .i64 k ∧ w = wr ∧ ∀ j (hj : j < k) (hl : j < H.l.length), isSt r pl H.l[j] = false) (fun i _ => H.l.length - (intOf i).toNat)
  case atStart => exact ⟨0, Nat.zero_le _, rfl, rfl, fun _ h => by omega⟩
  case round =>
    obtain ⟨k, hk, rfl, rfl, hno⟩ := hrel
    have HN := Lib.hid hno
    clear hno
    by_cases hlt : k < H.l.length
    · obtain ⟨g, rfl, hg, hcell⟩ := hcells (by omega)
      obtain ⟨g0, g1, g2⟩ := hcell k hlt
      clear hcells hcell
      have HE := Lib.hid (show isSt r pl H.l[k] = (H.l[k].rule == r && H.l[k].place == pl) from rfl)
      generalize hx : H.l[k] = x at *
      have HX := Lib.hid hx
      clear hx
      by_cases hr : (x.rule == r) = true
      · by_cases hpl : (x.place == pl) = true
        · have HQ := Lib.hid (And.intro hr hpl)
          go_wp2
          go_ret
          refine ⟨ret_int (posOf_hit (k := k) hlt ?_ (fun j hj => HN.out j hj (by omega))).symm, rfl⟩
          rw [HX.out, HE.out, HQ.out.1, HQ.out.2]; rfl
        · have hpl' : (x.place == pl) = false := by simpa using hpl
          have HQ := Lib.hid (And.intro hr hpl')
          clear hpl
          go_wp2
          go_roundw
          case rel =>
            refine ⟨k + 1, by omega, by go_num, trivial, fun j hj hl => ?_⟩
            by_cases hjk : j = k
            · subst hjk; rw [HX.out, HE.out, HQ.out.1, HQ.out.2]; rfl
            · exact HN.out j (by omega) hl
          case measure => simp [intOf]; omega
      · have hr' : (x.rule == r) = false := by simpa using hr
        have HQ := Lib.hid hr'
        clear hr
        go_wp2
        go_roundw
        case rel =>
          refine ⟨k + 1, by omega, by go_num, trivial, fun j hj hl => ?_⟩
          by_cases hjk : j = k
          · subst hjk; rw [HX.out, HE.out, HQ.out]; rfl
          · exact HN.out j (by omega) hl
        case measure => simp [intOf]; omega
    · obtain rfl : k = H.l.length := by omega
      go_wp2
      go_ret
      exact ⟨ret_int (posOf_none (fun j hj => HN.out j hj hj)).symm, rfl⟩

set_option maxRecDepth 100000 in
set_option maxHeartbeats 800000 in
theorem has_any (l : List Int) (v : Value) (x : Int) (w : World) (hl : Ints w v l) :
    Calls Try.prog 12 #[v, .int .i64 x] w fun e w' => e = .returned (.bool (l.contains x)) ∧ w = w' := by
  obtain ⟨A, c, rfl, hc, hm, _, hcells⟩ := hl.form
  unfold maxLen at hm
  clear hl
  go_enter Try.func12, Try.ntmps12
  go_wp2
  go_loopw [5] (fun i wr => ∃ k : Nat, k ≤ l.length ∧ i = .int .i64 k ∧ w = wr ∧ ∀ j (hj : j < k) (hl : j < l.length), l[j] ≠ x) (fun i _ => l.length - (intOf i).toNat)
  case atStart => exact ⟨0, Nat.zero_le _, rfl, rfl, fun _ h => by omega⟩
  case round =>
    obtain ⟨k, hk, rfl, rfl, hno⟩ := hrel
    have HN := Lib.hid hno
    clear hno
    by_cases hlt : k < l.length
    · obtain ⟨b, o, rfl, hcell⟩ := hcells (by omega)
      have g0 := hcell k hlt
      clear hcells hcell
      have HE := Lib.hid (show l.getD k 0 = l[k] by simp [List.getD, hlt])
      generalize hy : l.getD k 0 = y at *
      clear hy
      by_cases hr : (y == x) = true
      · have HQ := Lib.hid hr
        go_wp2
        go_ret
        refine ⟨ret_bool ?_, rfl⟩
        have : y = x := by simpa using HQ.out
        subst this
        rw [HE.out]
        simp
      · have hr' : (y == x) = false := by simpa using hr
        have HQ := Lib.hid hr'
        clear hr
        go_wp2
        go_roundw
        case rel =>
          refine ⟨k + 1, by omega, by go_num, trivial, fun j hj hl => ?_⟩
          by_cases hjk : j = k
          · subst hjk; rw [← HE.out]; simpa using HQ.out
          · exact HN.out j (by omega) hl
        case measure => simp [intOf]; omega
    · obtain rfl : k = l.length := by omega
      go_wp2
      go_ret
      refine ⟨ret_bool ?_, rfl⟩
      symm
      rw [Bool.eq_false_iff]
      intro hm
      rw [List.contains_iff_mem] at hm
      obtain ⟨j, hj, e⟩ := List.getElem_of_mem hm
      exact HN.out j hj hj e

theorem hangs_hit {H : Hist} {n : Nat} {since : Int} {k : Nat} (hk : k < H.reads.length) (h1 : decide (since < H.reads[k].step) = true) (h2 : decide (H.reads[k].at_ < n) = true) : hangsOf H n since = true :=
  List.any_eq_true.2 ⟨_, List.getElem_mem hk, by simpa using And.intro (of_decide_eq_true h1) (of_decide_eq_true h2)⟩
theorem hangs_none {H : Hist} {n : Nat} {since : Int} (h : ∀ j (hj : j < H.reads.length), (decide (since < H.reads[j].step) && decide (H.reads[j].at_ < n)) = false) : hangsOf H n since = false := by
  unfold hangsOf
  rw [List.any_eq_false]
  intro x hx
  obtain ⟨j, hj, rfl⟩ := List.getElem_of_mem hx
  have := h j hj
  simpa using this

set_option maxRecDepth 100000 in
set_option maxHeartbeats 800000 in
theorem hangs_any (q p : Nat) (vl vr vt : Value) (H : Hist) (n : Nat) (hn : n < H.l.length) (w : World) (h : HisC w q p vl vr vt H) :
    Calls Try.prog 14 #[.pointer (some ⟨q, 0, none⟩), .int .i64 n] w fun e w' => e = .returned (.bool (hangsOf H n H.l[n].since)) ∧ ∃ n, w' = w.drewN n := by
  have h1 := h.c1
  have h2 := h.c2
  have hp := h.blk.lt
  obtain ⟨A, c, rfl, hc, hm, _, hcells⟩ := h.lform
  obtain ⟨Ar, cr, rfl, hcr, hmr, _, hcellr⟩ := h.rform
  obtain ⟨gl, rfl, hgl, hcl⟩ := hcells (by omega)
  obtain ⟨_, _, g2⟩ := hcl n hn
  unfold maxLen at hm hmr
  have hnl : (n : Int) < (H.l.length : Int) := by omega
  generalize H.l[n].since = since at *
  clear h hcells hcl
  go_enter Try.func14, Try.ntmps14
  go_wp2
  go_loopw [5] (fun i wr => ∃ k : Nat, k ≤ H.reads.length ∧ i = .int .i64 k ∧ (∃ n, wr = w.drewN n) ∧ ∀ j (hj : j < k) (hl : j < H.reads.length), (decide (since < H.reads[j].step) && decide (H.reads[j].at_ < n)) = false) (fun i _ => H.reads.length - (intOf i).toNat)
  case atStart => exact ⟨0, Nat.zero_le _, rfl, ⟨0, rfl⟩, fun _ h => by omega⟩
  case round =>
    obtain ⟨k, hk, rfl, ⟨m, rfl⟩, hno⟩ := hrel
    have HN := Lib.hid hno
    clear hno
    by_cases hlt : k < H.reads.length
    · obtain ⟨g, rfl, hg, hcell⟩ := hcellr (by omega)
      obtain ⟨g0, g1⟩ := hcell k hlt
      clear hcellr hcell
      generalize hx : H.reads[k] = x at *
      have HX := Lib.hid hx
      have hlk : (k : Int) < (H.reads.length : Int) := by omega
      clear hx
      cases hr : decide (since < x.step)
      · have HQ := Lib.hid hr
        go_wp2
        go_quiet (fail)
        go_wp2
        go_roundw
        case rel =>
          refine ⟨k + 1, by omega, by go_num, ⟨_, rfl⟩, fun j hj hl => ?_⟩
          by_cases hjk : j = k
          · subst hjk; rw [HX.out, HQ.out]; rfl
          · exact HN.out j (by omega) hl
        case measure => simp [intOf]; omega
      · cases hpl : decide (x.at_ < n)
        · have HQ := Lib.hid hpl
          go_wp2
          go_quiet (fail)
          go_wp2
          go_roundw
          case rel =>
            refine ⟨k + 1, by omega, by go_num, ⟨_, rfl⟩, fun j hj hl => ?_⟩
            by_cases hjk : j = k
            · subst hjk; rw [HX.out, HQ.out, Bool.and_false]
            · exact HN.out j (by omega) hl
          case measure => simp [intOf]; omega
        · have HQ := Lib.hid (And.intro hr hpl)
          go_wp2
          go_quiet (fail)
          go_wp2
          go_ret
          exact ⟨ret_bool (hangs_hit hlt (by rw [HX.out]; exact HQ.out.1) (by rw [HX.out]; exact HQ.out.2)).symm, by first | exact ⟨_, rfl⟩ | exact ⟨_, World.drewN_drewN _ _ _⟩⟩
    · obtain rfl : k = H.reads.length := by omega
      go_wp2
      go_ret
      exact ⟨ret_bool (hangs_none (fun j hj => HN.out j hj hj)).symm, m, rfl⟩

theorem touched_hit {H : Hist} {since pl r : Int} {k : Nat} (hk : k < H.touches.length) (h1 : decide (since ≤ H.touches[k].step) = true) (h2 : (H.touches[k].rule == r) = true) (h3 : (H.touches[k].place == pl) = true) : touchedOf H since pl r = true :=
  List.any_eq_true.2 ⟨_, List.getElem_mem hk, by rw [h2, h3]; simpa using of_decide_eq_true h1⟩
theorem touched_none {H : Hist} {since pl r : Int} (h : ∀ j (hj : j < H.touches.length), (decide (since ≤ H.touches[j].step) && (H.touches[j].rule == r) && (H.touches[j].place == pl)) = false) : touchedOf H since pl r = false := by
  unfold touchedOf
  rw [List.any_eq_false]
  intro x hx
  obtain ⟨j, hj, rfl⟩ := List.getElem_of_mem hx
  have := h j hj
  simpa using this

set_option maxRecDepth 100000 in
set_option maxHeartbeats 1600000 in
theorem touched_any (q p : Nat) (vl vr vt : Value) (H : Hist) (n : Nat) (hn : n < H.l.length) (r : Int) (w : World) (h : HisC w q p vl vr vt H) :
    Calls Try.prog 42 #[.pointer (some ⟨q, 0, none⟩), .int .i64 n, .int .i64 r] w fun e w' => e = .returned (.bool (touchedOf H H.l[n].since H.l[n].place r)) ∧ ∃ n, w' = w.drewN n := by
  have h1 := h.c1
  have h2 := h.c3
  have hp := h.blk.lt
  obtain ⟨A, c, rfl, hc, hm, _, hcells⟩ := h.lform
  obtain ⟨Ar, cr, rfl, hcr, hmr, _, hcellr⟩ := h.tform
  obtain ⟨gl, rfl, hgl, hcl⟩ := hcells (by omega)
  obtain ⟨_, f1, f2⟩ := hcl n hn
  unfold maxLen at hm hmr
  have hnl : (n : Int) < (H.l.length : Int) := by omega
  generalize H.l[n].since = since at *
  generalize H.l[n].place = pl at *
  clear h hcells hcl
  go_enter Try.func42, Try.ntmps42
  go_wp2
  go_loopw [7] (fun i wr => ∃ k : Nat, k ≤ H.touches.length ∧ i = .int .i64 k ∧ (∃ n, wr = w.drewN n) ∧ ∀ j (hj : j < k) (hl : j < H.touches.length), (decide (since ≤ H.touches[j].step) && (H.touches[j].rule == r) && (H.touches[j].place == pl)) = false) (fun i _ => H.touches.length - (intOf i).toNat)
  case atStart => exact ⟨0, Nat.zero_le _, rfl, ⟨0, rfl⟩, fun _ h => by omega⟩
  case round =>
    obtain ⟨k, hk, rfl, ⟨m, rfl⟩, hno⟩ := hrel
    have HN := Lib.hid hno
    clear hno
    by_cases hlt : k < H.touches.length
    · obtain ⟨g, rfl, hg, hcell⟩ := hcellr (by omega)
      obtain ⟨g0, g1, g2⟩ := hcell k hlt
      clear hcellr hcell
      generalize hx : H.touches[k] = x at *
      have HX := Lib.hid hx
      have hlk : (k : Int) < (H.touches.length : Int) := by omega
      clear hx
      cases hr : decide (since ≤ x.step)
      · have HQ := Lib.hid hr
        go_wp2
        go_quiet (fail)
        go_wp2
        go_roundw
        case rel =>
          refine ⟨k + 1, by omega, by go_num, ⟨_, rfl⟩, fun j hj hl => ?_⟩
          by_cases hjk : j = k
          · subst hjk; rw [HX.out, HQ.out]; rfl
          · exact HN.out j (by omega) hl
        case measure => simp [intOf]; omega
      · cases hpl : (x.rule == r)
        · have HQ := Lib.hid hpl
          go_wp2
          go_quiet (fail)
          go_wp2
          go_roundw
          case rel =>
            refine ⟨k + 1, by omega, by go_num, ⟨_, rfl⟩, fun j hj hl => ?_⟩
            by_cases hjk : j = k
            · subst hjk; rw [HX.out, HQ.out, Bool.and_false, Bool.false_and]
            · exact HN.out j (by omega) hl
          case measure => simp [intOf]; omega
        · cases hpl2 : (x.place == pl)
          · have HQ := Lib.hid hpl2
            go_wp2
            go_quiet (fail)
            go_wp2
            go_roundw
            case rel =>
              refine ⟨k + 1, by omega, by go_num, ⟨_, rfl⟩, fun j hj hl => ?_⟩
              by_cases hjk : j = k
              · subst hjk; rw [HX.out, HQ.out, Bool.and_false]
              · exact HN.out j (by omega) hl
            case measure => simp [intOf]; omega
          · have HQ := Lib.hid (And.intro hr (And.intro hpl hpl2))
            go_wp2
            go_quiet (fail)
            go_wp2
            go_ret
            exact ⟨ret_bool (touched_hit hlt (by rw [HX.out]; exact HQ.out.1) (by rw [HX.out]; exact HQ.out.2.1) (by rw [HX.out]; exact HQ.out.2.2)).symm, by first | exact ⟨_, rfl⟩ | exact ⟨_, World.drewN_drewN _ _ _⟩⟩
    · obtain rfl : k = H.touches.length := by omega
      go_wp2
      go_ret
      exact ⟨ret_bool (touched_none (fun j hj => HN.out j hj hj)).symm, m, rfl⟩
end Go.Proofs.Ytjmidomcgaijjaa
