/- The document's stack as it lies in memory; a number put into a rising row. -/
import Derived.Test.YtjmidomcgaijjaaUni
import Derived.Test.YtjmidomcgaijjaaInv
import Derived.Deep.AppendLies
import Derived.Laws.OwnMore
namespace Go.Proofs.Ytjmidomcgaijjaa
set_option linter.unusedVariables false
set_option linter.unusedSimpArgs false
open Go.RowKit

theorem ins_split (x : Int) : ∀ (l : List Int) (k : Nat), k ≤ l.length → (∀ j (hj : j < k) (hl : j < l.length), l[j] < x) → (∀ hl : k < l.length, x < l[k]) → ins x l = l.take k ++ (x :: l.drop k)
  | [], k, hk, _, _ => by obtain rfl : k = 0 := by simpa using hk
                          rfl
  | y :: l, 0, _, _, hg => by
    have : x < y := hg (by simp)
    simp [ins, this]
  | y :: l, k + 1, hk, hl, hg => by
    have h0 : y < x := hl 0 (by omega) (by simp)
    have h1 : ¬ x < y := by omega
    have h2 : ¬ x = y := by omega
    have ih := ins_split x l k (by simpa using hk) (fun j hj hl' => hl (j + 1) (by omega) (by simpa using hl')) (fun hl' => hg (by simpa using hl'))
    simp [ins, h1, h2, ih]
theorem ins_hit (x : Int) : ∀ (l : List Int) (k : Nat) (hk : k < l.length), (∀ j (hj : j < k), l[j] < x) → l[k] = x → ins x l = l
  | [], k, hk, _, _ => by simp at hk
  | y :: l, 0, _, _, hg => by
    have : y = x := hg
    subst this
    simp [ins]
  | y :: l, k + 1, hk, hl, hg => by
    have h0 : y < x := hl 0 (by omega)
    have h1 : ¬ x < y := by omega
    have h2 : ¬ x = y := by omega
    have ih := ins_hit x l k (by simpa using hk) (fun j hj => hl (j + 1) (by omega)) hg
    simp [ins, h1, h2, ih]
def below (x : Int) (l : List Int) : Nat := (l.takeWhile fun y => decide (y < x)).length
theorem below_le (x : Int) (l : List Int) : below x l ≤ l.length := (List.takeWhile_sublist _).length_le
theorem below_lt (x : Int) : ∀ (l : List Int) (j : Nat), j < below x l → ∀ hl : j < l.length, l[j] < x
  | [], j, h, hl => by simp at hl
  | y :: l, j, h, hl => by
    by_cases hy : y < x
    · cases j with
      | zero => exact hy
      | succ j =>
        have : below x (y :: l) = below x l + 1 := by simp [below, hy]
        exact below_lt x l j (by omega) (by simpa using hl)
    · simp [below, hy] at h
theorem below_ge (x : Int) : ∀ (l : List Int) (hl : below x l < l.length), x ≤ l[below x l]
  | [], hl => by simp at hl
  | y :: l, hl => by
    by_cases hy : y < x
    · have e : below x (y :: l) = below x l + 1 := by simp [below, hy]
      have := below_ge x l (by rw [e] at hl; simpa using hl)
      simp only [e]
      exact this
    · have e : below x (y :: l) = 0 := by simp [below, hy]
      simp only [e]
      show x ≤ y
      omega

theorem length_ins_le (x : Int) (l : List Int) : (ins x l).length ≤ l.length + 1 := length_ins x l

theorem ownsRow_cast {w : World} {b sz n n' : Nat} {t : TypeId} {v : Value} {xs xs' : List Value} (h : w.ownsRow b t sz v n xs) (hn : n = n') (hx : xs = xs') : w.ownsRow b t sz v n' xs' := by subst hn hx; exact h
/-- a row of numbers of the call's own -/
def RowI (w : World) (v : Value) (l : List Int) : Prop := w.ownsRow 0 3 1 v l.length (l.map (Value.int .i64)) ∧ (l = [] → v = .slice none 0 0)
theorem RowI.nil (w : World) : RowI w (.slice none 0 0) [] := ⟨World.ownsRow_nil _ _ _ _, fun _ => rfl⟩
theorem RowI.ints {w : World} {v : Value} {l : List Int} (h : RowI w v l) : Ints w v l := Reads.of_own h.1
theorem RowI.keep {w w' : World} {S : Nat → Prop} {v : Value} {l : List Int} (h : RowI w v l) (hu : Upd S w w') (hn : ∀ k, v.ownBlock = some k → ¬ S k) : RowI w' v l := ⟨ownsRow_keep h.1 hu hn, h.2⟩

set_option maxRecDepth 100000 in
set_option maxHeartbeats 1600000 in
theorem add_any (l : List Int) (v : Value) (x : Int) (w : World) (hv : RowI w v l) (hn : l.length ≤ 1000000) :
    Calls Try.prog 52 #[v, .int .i64 x] w fun e w' => ∃ u, e = .returned u ∧ RowI w' u (ins x l) ∧ Below w.heap.size w w' ∧ (∀ k, u.ownBlock = some k → v.ownBlock = some k ∨ w.heap.size ≤ k) := by
  obtain ⟨i0, hi, hz0, hz1, hz2⟩ := info_parts (P := Try.prog) (e := 3) (z := .int .i64 0) (size := 1) (bytes := 8) (by kernel_rfl)
  have HB1 := Lib.hid ((ext_refl w).alloc (Nat.le_refl _) (.cells #[.int .i64 x] 3))
  rcases Nat.eq_zero_or_pos l.length with h0 | h0
  · obtain rfl : l = [] := List.eq_nil_of_length_eq_zero h0
    obtain rfl := hv.2 rfl
    have hins := Lib.hid (show ins x [] = ([] : List Int).take 0 ++ (x :: ([] : List Int).drop 0) from rfl)
    clear hv h0
    go_enter Try.func52, Try.ntmps52
    go_wp2
    go_loopw [5] (fun i wr => i = .int .i64 0 ∧ w = wr) (fun i _ => 0)
    case atStart => exact ⟨rfl, rfl⟩
    case round =>
      obtain ⟨rfl, rfl⟩ := hrel
      go_wp2_with (first
        | (at_builtin; refine wpList_app rfl (.tmp 35) (.tmp 38) 38 rfl 3 i0 _ 1 8 Try.underlying38 hi hz0 hz1 hz2 rfl (by decide) (.slice (some ⟨w.heap.size, 0, none⟩) 1 1) 1 [.int .i64 x] rfl (World.ownsRow_lit w #[.int .i64 x] 1 (Nat.zero_le _) (by unfold maxLen; omega) rfl) _ _ _ ((([] : List Int).drop 0).map (Value.int .i64)) rfl (by simp) (by simp) (fun ad had => by cases had) (ints_oneCell _ _) (by unfold maxLen; omega) (by omega) ?_
           intro A2 c2 w2 hrow2 hu2 hv2 hz2'
           obtain ⟨g2, cap2, e2, _, hg2⟩ := hrow2.form (by omega)
           injection e2 with e2 _ e3
           subst e2 e3
           have hb2 : Below w.heap.size w w2 := HB1.out.trans (hu2.below HB1.out.size (fun j hj e => by simp [Value.ownBlock] at e; omega))
           have HROW2 := Lib.hid (And.intro hrow2 (And.intro hb2 (And.intro hg2 hv2)))
           clear hrow2 hu2 hv2 hz2' hb2)
        | (at_builtin; refine wpList_app rfl (.tmp 40) (.tmp 43) 38 rfl 3 i0 _ 1 8 Try.underlying38 hi hz0 hz1 hz2 rfl (by decide) (.slice (some ⟨w2.heap.size, 0, none⟩) 0 0) 0 [] rfl (World.ownsRow_lit w2 #[] 0 (Nat.zero_le _) (by unfold maxLen; omega) rfl) _ _ _ ((([] : List Int).take 0).map (Value.int .i64)) rfl (by simp <;> omega) (by simp) (fun ad had => by cases had) (ints_oneCell _ _) (by unfold maxLen; omega) (by omega) ?_
           intro A3 c3 w3 hrow3 hu3 hv3 hz3'
           rw [Nat.zero_add, List.nil_append] at hrow3
           rw [Nat.zero_add] at hv3
           have hb3 : Below w.heap.size w w3 := (HROW2.out.2.1.alloc HROW2.out.2.1.size _).trans (hu3.below (by have := HROW2.out.2.1.size; simp; omega) (fun j hj e => by have := HROW2.out.2.1.size; simp [Value.ownBlock] at e; omega))
           have hk3 := ownsRow_keep (HROW2.out.1.alloc (.cells #[] 3)) hu3 (fun j hj e => by have := HROW2.out.2.2.1; simp [Value.ownBlock] at e hj; omega)
           have HROW3 := Lib.hid (And.intro hrow3 (And.intro hb3 (And.intro hk3 hv3)))
           clear hrow3 hu3 hv3 hz3' hb3 hk3)
        | (at_builtin; (refine wpList_app rfl (.tmp 44) (.tmp 45) 38 rfl 3 i0 _ 1 8 Try.underlying38 hi hz0 hz1 hz2 rfl (by decide) (.slice A3 0 c3) 0 _ rfl HROW3.out.1 _ _ _ ([.int .i64 x] ++ (([] : List Int).drop 0).map (Value.int .i64)) rfl (by simp <;> omega) (by simp) (fun ad had => by cases had; exact HROW3.out.2.2.1.cells rfl) (ints_oneCell _ (x :: ([] : List Int).drop 0)) (by unfold maxLen; omega) (by omega) ?_)
           intro A4 c4 w4 hrow4 hu4 hv4 hz4'
           have HROW4 := Lib.hid (And.intro hrow4 (And.intro hu4 hv4))
           clear hrow4 hu4 hv4 hz4'))
      go_ret
      have hs2 := HROW2.out.2.1.size
      have h3 : ∀ j, (Value.slice A3 0 c3).ownBlock = some j → w.heap.size ≤ j := fun j hj => by
        rcases HROW3.out.2.2.2 j hj with h | h
        · simp [Value.ownBlock] at h; omega
        · simp at h; omega
      refine ⟨_, rfl, ?_, HROW3.out.2.1.trans (HROW4.out.2.1.below HROW3.out.2.1.size (fun j hj e => by have := h3 j e; omega)), fun j hj => .inr ?_⟩
      · rw [hins.out]
        exact ⟨ownsRow_cast HROW4.out.1 (by simp <;> omega) (by simp), fun h => by simp at h⟩
      · rcases HROW4.out.2.2 j hj with h | h
        · exact h3 j h
        · have := HROW3.out.2.1.size; omega
  obtain ⟨A, c, rfl, hc, hm, hnc, hcells⟩ := hv.ints.form
  unfold maxLen at hm
  have hle := below_le x l
  have HLT := Lib.hid (below_lt x l)
  have HGE := Lib.hid (below_ge x l)
  generalize below x l = n at *
  have HV := Lib.hid hv
  have hlen : (ins x l).length ≤ l.length + 1 := length_ins_le x l
  -- what is read of the row
  have HD : Hid (∀ W, Below w.heap.size w W → ∀ b o k, A = some ⟨b, o, none⟩ → k ≤ l.length → ∀ ad : Addr, (ad = ⟨b, o + k, none⟩ ∨ l.drop k = []) → ∀ j u, ((l.drop k).map (Value.int .i64))[j]? = some u → W.cell? (ad.add j) = some u) := Lib.hid (by
    intro W hW b o k hA hk ad had j u hu
    rcases had with rfl | had
    · have hj : j < (l.drop k).length := by have := (List.getElem?_eq_some_iff.1 hu).1; simpa using this
      have hkj : k + j < l.length := by simp at hj; omega
      obtain ⟨b', o', e, hcell⟩ := hcells (by omega)
      rw [hA] at e
      cases e
      have g := hcell (k + j) hkj
      rw [Addr.add_lit, Nat.add_assoc]
      rw [(hW.cell (p := ⟨b, o + (k + j), none⟩) (World.block_lt_of_cell? w _ g)), g]
      simp [List.getD, hkj] at hu ⊢
      simpa [List.getElem?_drop, hkj] using hu
    · simp [had] at hu)
  have HTk : Hid (∀ W, Below w.heap.size w W → ∀ b o k, A = some ⟨b, o, none⟩ → k ≤ l.length → ∀ ad : Addr, (ad = ⟨b, o, none⟩ ∨ l.take k = []) → ∀ j u, ((l.take k).map (Value.int .i64))[j]? = some u → W.cell? (ad.add j) = some u) := Lib.hid (by
    intro W hW b o k hA hk ad had j u hu
    rcases had with rfl | had
    · have hj : j < (l.take k).length := by have := (List.getElem?_eq_some_iff.1 hu).1; simpa using this
      have hj1 : j < k := by simp at hj; omega
      have hj2 : j < l.length := by simp at hj; omega
      obtain ⟨b', o', e, hcell⟩ := hcells (by omega)
      rw [hA] at e
      cases e
      have g := hcell j hj2
      rw [Addr.add_lit]
      rw [(hW.cell (p := ⟨b, o + j, none⟩) (World.block_lt_of_cell? w _ g)), g]
      simp [List.getD, hj2] at hu ⊢
      simpa [List.getElem?_take, hj1, hj2] using hu
    · simp [had] at hu)
  clear hv
  go_enter Try.func52, Try.ntmps52
  go_wp2
  go_loopw [5] (fun i wr => ∃ k : Nat, k ≤ n ∧ i = .int .i64 k ∧ w = wr) (fun i _ => n - (intOf i).toNat)
  case atStart => exact ⟨0, Nat.zero_le _, rfl, rfl⟩
  case round =>
    obtain ⟨k, hk, rfl, rfl⟩ := hrel
    by_cases hlt : k < l.length
    · obtain ⟨b, o, rfl, hcell⟩ := hcells (by omega)
      have g := hcell k hlt
      have hx : l.getD k 0 = l[k] := by simp [List.getD, hlt]
      rw [hx] at g
      have hlk : (k : Int) < (l.length : Int) := by omega
      clear hcells hcell hx
      by_cases hkn : k < n
      · have h1 := HLT.out k hkn hlt
        generalize l[k] = y at *
        go_wp2
        go_roundw
        case rel => exact ⟨k + 1, by omega, by go_num, trivial⟩
        case measure => simp [intOf]; omega
      · obtain rfl : k = n := by omega
        have h1 : ¬ (l[k] < x) := by have := HGE.out hlt; omega
        by_cases he : l[k] = x
        · have hins := Lib.hid (ins_hit x l k hlt (fun j hj => HLT.out j hj (by omega)) he)
          generalize l[k] = y at *
          subst he
          go_wp2
          go_ret
          exact ⟨_, rfl, by rw [hins.out]; exact HV.out, ext_refl _, fun k hk => .inl hk⟩
        · have hins := Lib.hid (ins_split x l k (by omega) (fun j hj hl => HLT.out j hj hl) (fun hl => by have := HGE.out hl; omega))
          have he' : (l[k] == x) = false := by simpa using he
          have HD1 := Lib.hid (fun W hW ad had => HD.out W hW b o k rfl (by omega) ad had)
          have HT1 := Lib.hid (fun W hW ad had => HTk.out W hW b o k rfl (by omega) ad had)

          generalize l[k] = y at *
          clear HD HTk HLT HGE
          go_wp2_with (first
            | (at_builtin; refine wpList_app rfl (.tmp 35) (.tmp 38) 38 rfl 3 i0 _ 1 8 Try.underlying38 hi hz0 hz1 hz2 rfl (by decide) (.slice (some ⟨w.heap.size, 0, none⟩) 1 1) 1 [.int .i64 x] rfl (World.ownsRow_lit w #[.int .i64 x] 1 (Nat.zero_le _) (by unfold maxLen; omega) rfl) _ _ _ ((l.drop k).map (Value.int .i64)) rfl (by simp) (by simp) (fun ad had => HD1.out _ HB1.out ad (by cases had; exact .inl rfl)) (ints_oneCell _ _) (by unfold maxLen; omega) (by omega) ?_
               intro A2 c2 w2 hrow2 hu2 hv2 hz2'
               obtain ⟨g2, cap2, e2, _, hg2⟩ := hrow2.form (by omega)
               injection e2 with e2 _ e3
               subst e2 e3
               have hb2 : Below w.heap.size w w2 := HB1.out.trans (hu2.below HB1.out.size (fun j hj e => by simp [Value.ownBlock] at e; omega))
               have HROW2 := Lib.hid (And.intro hrow2 (And.intro hb2 (And.intro hg2 hv2)))
               clear hrow2 hu2 hv2 hz2' hb2)
            | (at_builtin; refine wpList_app rfl (.tmp 40) (.tmp 43) 38 rfl 3 i0 _ 1 8 Try.underlying38 hi hz0 hz1 hz2 rfl (by decide) (.slice (some ⟨w2.heap.size, 0, none⟩) 0 0) 0 [] rfl (World.ownsRow_lit w2 #[] 0 (Nat.zero_le _) (by unfold maxLen; omega) rfl) _ _ _ ((l.take k).map (Value.int .i64)) rfl (by simp <;> omega) (by simp) (fun ad had => HT1.out _ (HROW2.out.2.1.alloc HROW2.out.2.1.size _) ad (by cases had; exact .inl rfl)) (ints_oneCell _ _) (by unfold maxLen; omega) (by omega) ?_
               intro A3 c3 w3 hrow3 hu3 hv3 hz3'
               rw [Nat.zero_add, List.nil_append] at hrow3
               rw [Nat.zero_add] at hv3
               have hb3 : Below w.heap.size w w3 := (HROW2.out.2.1.alloc HROW2.out.2.1.size _).trans (hu3.below (by have := HROW2.out.2.1.size; simp; omega) (fun j hj e => by have := HROW2.out.2.1.size; simp [Value.ownBlock] at e; omega))
               have hk3 := ownsRow_keep (HROW2.out.1.alloc (.cells #[] 3)) hu3 (fun j hj e => by have := HROW2.out.2.2.1; simp [Value.ownBlock] at e hj; omega)
               have HROW3 := Lib.hid (And.intro hrow3 (And.intro hb3 (And.intro hk3 hv3)))
               clear hrow3 hu3 hv3 hz3' hb3 hk3)
            | (at_builtin; (refine wpList_app rfl (.tmp 44) (.tmp 45) 38 rfl 3 i0 _ 1 8 Try.underlying38 hi hz0 hz1 hz2 rfl (by decide) (.slice A3 k c3) k _ rfl HROW3.out.1 _ _ _ ([.int .i64 x] ++ (l.drop k).map (Value.int .i64)) rfl (by simp <;> omega) (by simp) (fun ad had => by cases had; exact HROW3.out.2.2.1.cells rfl) (ints_oneCell _ (x :: l.drop k)) (by unfold maxLen; omega) (by omega) ?_)
               intro A4 c4 w4 hrow4 hu4 hv4 hz4'
               have HROW4 := Lib.hid (And.intro hrow4 (And.intro hu4 hv4))
               clear hrow4 hu4 hv4 hz4'))
          go_ret
          have hs2 := HROW2.out.2.1.size
          have h3 : ∀ j, (Value.slice A3 k c3).ownBlock = some j → w.heap.size ≤ j := fun j hj => by
            rcases HROW3.out.2.2.2 j hj with h | h
            · simp [Value.ownBlock] at h; omega
            · simp at h; omega
          refine ⟨_, rfl, ?_, HROW3.out.2.1.trans (HROW4.out.2.1.below HROW3.out.2.1.size (fun j hj e => by have := h3 j e; omega)), fun j hj => .inr ?_⟩
          · rw [hins.out]
            exact ⟨ownsRow_cast HROW4.out.1 (by simp <;> omega) (by simp), fun h => by simp at h⟩
          · rcases HROW4.out.2.2 j hj with h | h
            · exact h3 j h
            · have := HROW3.out.2.1.size; omega
    · obtain rfl : k = l.length := by omega
      obtain rfl : n = l.length := by omega
      have hins := Lib.hid (ins_split x l l.length (by omega) (fun j hj hl => HLT.out j hj hl) (fun hl => by omega))
      obtain ⟨b, o, rfl, _⟩ := hcells h0
      have HT1 := Lib.hid (fun W hW ad had => HTk.out W hW b o l.length rfl (by omega) ad had)
      have hlk : ¬ ((l.length : Int) < (l.length : Int)) := by omega
      clear HD HTk HLT HGE hcells
      by_cases hcl : c = l.length
      · subst hcl
        go_wp2_with (first
          | (at_builtin; refine wpList_app rfl (.tmp 35) (.tmp 38) 38 rfl 3 i0 _ 1 8 Try.underlying38 hi hz0 hz1 hz2 rfl (by decide) (.slice (some ⟨w.heap.size, 0, none⟩) 1 1) 1 [.int .i64 x] rfl (World.ownsRow_lit w #[.int .i64 x] 1 (Nat.zero_le _) (by unfold maxLen; omega) rfl) _ _ _ ((l.drop l.length).map (Value.int .i64)) rfl (by simp) (by simp) (fun ad had j u hu => by simp at hu) (ints_oneCell _ _) (by unfold maxLen; omega) (by omega) ?_
             intro A2 c2 w2 hrow2 hu2 hv2 hz2'
             obtain ⟨g2, cap2, e2, _, hg2⟩ := hrow2.form (by omega)
             injection e2 with e2 _ e3
             subst e2 e3
             have hb2 : Below w.heap.size w w2 := HB1.out.trans (hu2.below HB1.out.size (fun j hj e => by simp [Value.ownBlock] at e; omega))
             have HROW2 := Lib.hid (And.intro hrow2 (And.intro hb2 (And.intro hg2 hv2)))
             clear hrow2 hu2 hv2 hz2' hb2)
          | (at_builtin; refine wpList_app rfl (.tmp 40) (.tmp 43) 38 rfl 3 i0 _ 1 8 Try.underlying38 hi hz0 hz1 hz2 rfl (by decide) (.slice (some ⟨w2.heap.size, 0, none⟩) 0 0) 0 [] rfl (World.ownsRow_lit w2 #[] 0 (Nat.zero_le _) (by unfold maxLen; omega) rfl) _ _ _ ((l.take l.length).map (Value.int .i64)) rfl (by simp <;> omega) (by simp) (fun ad had => HT1.out _ (HROW2.out.2.1.alloc HROW2.out.2.1.size _) ad (by cases had; exact .inl rfl)) (ints_oneCell _ _) (by unfold maxLen; omega) (by omega) ?_
             intro A3 c3 w3 hrow3 hu3 hv3 hz3'
             rw [Nat.zero_add, List.nil_append] at hrow3
             rw [Nat.zero_add] at hv3
             have hb3 : Below w.heap.size w w3 := (HROW2.out.2.1.alloc HROW2.out.2.1.size _).trans (hu3.below (by have := HROW2.out.2.1.size; simp; omega) (fun j hj e => by have := HROW2.out.2.1.size; simp [Value.ownBlock] at e; omega))
             have hk3 := ownsRow_keep (HROW2.out.1.alloc (.cells #[] 3)) hu3 (fun j hj e => by have := HROW2.out.2.2.1; simp [Value.ownBlock] at e hj; omega)
             have HROW3 := Lib.hid (And.intro hrow3 (And.intro hb3 (And.intro hk3 hv3)))
             clear hrow3 hu3 hv3 hz3' hb3 hk3)
          | (at_builtin; (refine wpList_app rfl (.tmp 44) (.tmp 45) 38 rfl 3 i0 _ 1 8 Try.underlying38 hi hz0 hz1 hz2 rfl (by decide) (.slice A3 l.length c3) l.length _ rfl HROW3.out.1 _ _ _ ([.int .i64 x] ++ (l.drop l.length).map (Value.int .i64)) rfl (by simp <;> omega) (by simp) (fun ad had => by cases had; exact HROW3.out.2.2.1.cells rfl) (ints_oneCell _ (x :: l.drop l.length)) (by unfold maxLen; omega) (by omega) ?_)
             intro A4 c4 w4 hrow4 hu4 hv4 hz4'
             have HROW4 := Lib.hid (And.intro hrow4 (And.intro hu4 hv4))
             clear hrow4 hu4 hv4 hz4'))
        go_ret
        have hs2 := HROW2.out.2.1.size
        have h3 : ∀ j, (Value.slice A3 l.length c3).ownBlock = some j → w.heap.size ≤ j := fun j hj => by
          rcases HROW3.out.2.2.2 j hj with h | h
          · simp [Value.ownBlock] at h; omega
          · simp at h; omega
        refine ⟨_, rfl, ?_, HROW3.out.2.1.trans (HROW4.out.2.1.below HROW3.out.2.1.size (fun j hj e => by have := h3 j e; omega)), fun j hj => .inr ?_⟩
        · rw [hins.out]
          exact ⟨ownsRow_cast HROW4.out.1 (by simp <;> omega) (by simp), fun h => by simp at h⟩
        · rcases HROW4.out.2.2 j hj with h | h
          · exact h3 j h
          · have := HROW3.out.2.1.size; omega
      · have hcl' : l.length < c := by omega
        go_wp2_with (first
          | (at_builtin; refine wpList_app rfl (.tmp 35) (.tmp 38) 38 rfl 3 i0 _ 1 8 Try.underlying38 hi hz0 hz1 hz2 rfl (by decide) (.slice (some ⟨w.heap.size, 0, none⟩) 1 1) 1 [.int .i64 x] rfl (World.ownsRow_lit w #[.int .i64 x] 1 (Nat.zero_le _) (by unfold maxLen; omega) rfl) _ _ _ ((l.drop l.length).map (Value.int .i64)) rfl (by simp) (by simp) (fun ad had j u hu => by simp at hu) (ints_oneCell _ _) (by unfold maxLen; omega) (by omega) ?_
             intro A2 c2 w2 hrow2 hu2 hv2 hz2'
             obtain ⟨g2, cap2, e2, _, hg2⟩ := hrow2.form (by omega)
             injection e2 with e2 _ e3
             subst e2 e3
             have hb2 : Below w.heap.size w w2 := HB1.out.trans (hu2.below HB1.out.size (fun j hj e => by simp [Value.ownBlock] at e; omega))
             have HROW2 := Lib.hid (And.intro hrow2 (And.intro hb2 (And.intro hg2 hv2)))
             clear hrow2 hu2 hv2 hz2' hb2)
          | (at_builtin; refine wpList_app rfl (.tmp 40) (.tmp 43) 38 rfl 3 i0 _ 1 8 Try.underlying38 hi hz0 hz1 hz2 rfl (by decide) (.slice (some ⟨w2.heap.size, 0, none⟩) 0 0) 0 [] rfl (World.ownsRow_lit w2 #[] 0 (Nat.zero_le _) (by unfold maxLen; omega) rfl) _ _ _ ((l.take l.length).map (Value.int .i64)) rfl (by simp <;> omega) (by simp) (fun ad had => HT1.out _ (HROW2.out.2.1.alloc HROW2.out.2.1.size _) ad (by cases had; exact .inl rfl)) (ints_oneCell _ _) (by unfold maxLen; omega) (by omega) ?_
             intro A3 c3 w3 hrow3 hu3 hv3 hz3'
             rw [Nat.zero_add, List.nil_append] at hrow3
             rw [Nat.zero_add] at hv3
             have hb3 : Below w.heap.size w w3 := (HROW2.out.2.1.alloc HROW2.out.2.1.size _).trans (hu3.below (by have := HROW2.out.2.1.size; simp; omega) (fun j hj e => by have := HROW2.out.2.1.size; simp [Value.ownBlock] at e; omega))
             have hk3 := ownsRow_keep (HROW2.out.1.alloc (.cells #[] 3)) hu3 (fun j hj e => by have := HROW2.out.2.2.1; simp [Value.ownBlock] at e hj; omega)
             have HROW3 := Lib.hid (And.intro hrow3 (And.intro hb3 (And.intro hk3 hv3)))
             clear hrow3 hu3 hv3 hz3' hb3 hk3)
          | (at_builtin; (refine wpList_app rfl (.tmp 44) (.tmp 45) 38 rfl 3 i0 _ 1 8 Try.underlying38 hi hz0 hz1 hz2 rfl (by decide) (.slice A3 l.length c3) l.length _ rfl HROW3.out.1 _ _ _ ([.int .i64 x] ++ (l.drop l.length).map (Value.int .i64)) rfl (by simp <;> omega) (by simp) (fun ad had => by cases had; exact HROW3.out.2.2.1.cells rfl) (ints_oneCell _ (x :: l.drop l.length)) (by unfold maxLen; omega) (by omega) ?_)
             intro A4 c4 w4 hrow4 hu4 hv4 hz4'
             have HROW4 := Lib.hid (And.intro hrow4 (And.intro hu4 hv4))
             clear hrow4 hu4 hv4 hz4'))
        go_ret
        have hs2 := HROW2.out.2.1.size
        have h3 : ∀ j, (Value.slice A3 l.length c3).ownBlock = some j → w.heap.size ≤ j := fun j hj => by
          rcases HROW3.out.2.2.2 j hj with h | h
          · simp [Value.ownBlock] at h; omega
          · simp at h; omega
        refine ⟨_, rfl, ?_, HROW3.out.2.1.trans (HROW4.out.2.1.below HROW3.out.2.1.size (fun j hj e => by have := h3 j e; omega)), fun j hj => .inr ?_⟩
        · rw [hins.out]
          exact ⟨ownsRow_cast HROW4.out.1 (by simp <;> omega) (by simp), fun h => by simp at h⟩
        · rcases HROW4.out.2.2 j hj with h | h
          · exact h3 j h
          · have := HROW3.out.2.1.size; omega
end Go.Proofs.Ytjmidomcgaijjaa
