/- The store's methods: a pair goes live, grows, ends. -/
import Derived.Test.YtchmlhceidociaaSdB
namespace Go.Proofs.Ytchmlhceidociaa
set_option linter.unusedVariables false
set_option linter.unusedSimpArgs false
open Go.RowKit

/-- p leads to the pairs l, which lie within S -/
def SS (w : World) (p : Nat) (S : Nat → Prop) (l : List Pr) : Prop := ∃ v m cs, SdC w p v m cs ∧ prs cs = l ∧ S = SFoot p v m cs
theorem SS.keep {w w' : World} {p : Nat} {S U : Nat → Prop} {l : List Pr} (h : SS w p S l) (hu : Upd U w w') (hn : ∀ k, S k → ¬ U k) : SS w' p S l := by
  obtain ⟨v, m, cs, h1, h2, rfl⟩ := h
  exact ⟨v, m, cs, h1.keep hu hn, h2, rfl⟩
theorem SS.ext {w w' : World} {p : Nat} {S : Nat → Prop} {l : List Pr} (h : SS w p S l) (hb : Below w.heap.size w w') : SS w' p S l := h.keep (U := fun _ => False) (Upd.of_ext hb) (fun _ _ h => h)
theorem SS.lt {w : World} {p : Nat} {S : Nat → Prop} {l : List Pr} (h : SS w p S l) : p < w.heap.size ∧ S p := by
  obtain ⟨v, m, cs, h1, h2, rfl⟩ := h
  exact ⟨h1.blk.lt, .inl rfl⟩
theorem SS.slt {w : World} {p : Nat} {S : Nat → Prop} {l : List Pr} (h : SS w p S l) : ∀ k, S k → k < w.heap.size := by
  obtain ⟨v, m, cs, h1, h2, rfl⟩ := h
  exact fun k hk => h1.foot_lt hk

def isP (r pl : Int) (x : Pr) : Bool := x.rule == r && x.place == pl
def newP (r pl : Int) : Pr := ⟨r, pl, false, 0, 0, []⟩
theorem getIn_ent (r pl : Int) : ∀ (cs : List PrC), getIn (r, pl) (entP cs) = (cs.find? (fun c => isP r pl c.p)).map PrC.val
  | [] => rfl
  | c :: cs => by
    have ih := getIn_ent r pl cs
    unfold entP at ih ⊢
    rw [List.map_cons, getIn_cons, List.find?_cons]
    have : ((r, pl) = (c.key, c.val).1) ↔ isP r pl c.p = true := by
      simp [PrC.key, isP]
      constructor
      · rintro ⟨h1, h2⟩; exact ⟨h1.symm, h2.symm⟩
      · rintro ⟨h1, h2⟩; exact ⟨h1.symm, h2.symm⟩
    cases hq : isP r pl c.p with
    | true => rw [if_pos (this.2 hq)]; rfl
    | false => rw [if_neg (fun h => by rw [this.1 h] at hq; cases hq)]; exact ih
theorem keys_not (r pl : Int) (cs : List PrC) : (r, pl) ∉ cs.map PrC.key ↔ ∀ c ∈ cs, isP r pl c.p = false := by
  constructor
  · intro h c hc
    cases hq : isP r pl c.p with
    | false => rfl
    | true =>
      simp [isP] at hq
      exact absurd (List.mem_map.2 ⟨c, hc, by simp [PrC.key, hq]⟩) h
  · intro h hm
    obtain ⟨c, hc, e⟩ := List.mem_map.1 hm
    have := h c hc
    simp [PrC.key] at e
    simp [isP, e] at this

set_option maxRecDepth 100000 in
set_option maxHeartbeats 800000 in
theorem sbegin_twice (p m : Nat) (v : Value) (cs : List PrC) (r pl : Int) (w : World) (hs : SdC w p v m cs) (hq : (prs cs).any (isP r pl) = true) :
    Calls Try.prog 9 #[.pointer (some ⟨p, 0, none⟩), .int .i64 r, .int .i64 pl] w fun e w' => e = .returned (.int .i64 8) ∧ Below w.heap.size w w' := by
  have h1 := hs.c1
  have hp := hs.blk.lt
  have HM := Lib.hid (made_any p m w h1 hp)
  obtain ⟨c, hfc⟩ : ∃ c, cs.find? (fun c => isP r pl c.p) = some c := by
    cases hf : cs.find? (fun c => isP r pl c.p) with
    | some c => exact ⟨c, rfl⟩
    | none =>
      rw [List.any_eq_true] at hq
      obtain ⟨x, hx, hx2⟩ := hq
      obtain ⟨c, hc, rfl⟩ := List.mem_map.1 hx
      exact absurd hx2 (List.find?_eq_none.1 hf c hc)
  have hz : ∀ w, (zeroValue 66).run Try.prog w = .ok (.agg #[.bool false, .int .i64 0, .int .i64 0, .slice none 0 0]) w := fun _ => by kernel_rfl
  have HL := Lib.hid (fun W (hb : Below w.heap.size w W) => run_look Try.underlying52 pair_key (hs.ext hb).map hz (r, pl) true)
  rw [getIn_ent, hfc] at HL
  obtain ⟨At, ct, hct⟩ := (hs.trees c (List.mem_of_find?_eq_some hfc)).form
  have HE : Hid (∀ W, Below w.heap.size w W → Sem.run Try.prog (Instr.lookup 52 (.map (some m)) (.agg #[.int .i64 r, .int .i64 pl]) true) W = .ok (.tuple #[.agg #[.bool c.p.has, .int .i64 c.p.end_, .int .i64 c.p.level, .slice At c.p.tree.length ct], .bool true]) W) := Lib.hid (fun W hb => by
    have := HL.out W hb
    unfold PrC.val at this
    rw [← hct]; exact this)
  clear hct
  clear hs HL
  go_enter Try.func9, Try.ntmps9
  go_wp2_with (first
    | (go_at_call 21; refine HM.out.mono ?_; rintro e w1 ⟨rfl, rfl⟩))
  have hb1 := (ext_refl w).alloc (Nat.le_refl _) (.cells #[.int .i64 r, .int .i64 pl] 64)
  have hB := Blk.new w 64 #[.int .i64 r, .int .i64 pl]
  have d1 := (hb1.cell (p := ⟨p, 1, none⟩) hp).trans h1
  have c0 := hB.cell 0
  have c1 := hB.cell 1
  have cl := hB.lt
  have hpl := Nat.lt_of_lt_of_le hp hb1.size
  have HB1 := Lib.hid hb1
  obtain ⟨q, hq⟩ : ∃ q, q = w.heap.size := ⟨_, rfl⟩
  rw [← hq] at c0 c1 cl ⊢
  clear hB hb1 hq h1 hp
  generalize w.alloc (.cells #[.int .i64 r, .int .i64 pl] 64) = W at *
  refine AtE.start (S := fun w' => Below W.heap.size W w') 11 (by kernel_rfl) (by kernel_rfl) (by exact (ext_refl W).drew) (fun hHeld => ?_)
  refine AtE.take (i := 0) (v := ?_) rfl (by kernel_rfl) (by kernel_rfl) (by kernel_rfl) (fun _ _ _ h => h) (by decide) (Or.inl ⟨by rfl, ?_⟩) hHeld ?_
  rotate_left
  · intro wH hSw; have k1 := (hSw.cell (p := ⟨p, 1, none⟩) hpl).trans d1; have k2 := (hSw.cell (p := ⟨q, 0, none⟩) cl).trans c0; have k3 := (hSw.cell (p := ⟨q, 1, none⟩) cl).trans c1; have hlk := HE.out _ (ext_trans HB1.out hSw); go_simp; try (with_reducible rfl)
  simp only [Act.put, List.setIfInBounds_toArray, List.set_cons_zero, List.set_cons_succ]
  refine AtE.take (i := 1) (v := ?_) rfl (by kernel_rfl) (by kernel_rfl) (by kernel_rfl) (fun _ _ _ h => h) (by decide) (Or.inl ⟨by rfl, ?_⟩) hHeld ?_
  rotate_left
  · intro wH hSw; have k1 := (hSw.cell (p := ⟨p, 1, none⟩) hpl).trans d1; have k2 := (hSw.cell (p := ⟨q, 0, none⟩) cl).trans c0; have k3 := (hSw.cell (p := ⟨q, 1, none⟩) cl).trans c1; have hlk := HE.out _ (ext_trans HB1.out hSw); go_simp; try (with_reducible rfl)
  simp only [Act.put, List.setIfInBounds_toArray, List.set_cons_zero, List.set_cons_succ]
  refine AtE.take (i := 2) (v := ?_) rfl (by kernel_rfl) (by kernel_rfl) (by kernel_rfl) (fun _ _ _ h => h) (by decide) (Or.inl ⟨by rfl, ?_⟩) hHeld ?_
  rotate_left
  · intro wH hSw; have k1 := (hSw.cell (p := ⟨p, 1, none⟩) hpl).trans d1; have k2 := (hSw.cell (p := ⟨q, 0, none⟩) cl).trans c0; have k3 := (hSw.cell (p := ⟨q, 1, none⟩) cl).trans c1; have hlk := HE.out _ (ext_trans HB1.out hSw); go_simp; try (with_reducible rfl)
  simp only [Act.put, List.setIfInBounds_toArray, List.set_cons_zero, List.set_cons_succ]
  refine AtE.take (i := 3) (v := ?_) rfl (by kernel_rfl) (by kernel_rfl) (by kernel_rfl) (fun _ _ _ h => h) (by decide) (Or.inl ⟨by rfl, ?_⟩) hHeld ?_
  rotate_left
  · intro wH hSw; have k1 := (hSw.cell (p := ⟨p, 1, none⟩) hpl).trans d1; have k2 := (hSw.cell (p := ⟨q, 0, none⟩) cl).trans c0; have k3 := (hSw.cell (p := ⟨q, 1, none⟩) cl).trans c1; have hlk := HE.out _ (ext_trans HB1.out hSw); go_simp; try (with_reducible rfl)
  simp only [Act.put, List.setIfInBounds_toArray, List.set_cons_zero, List.set_cons_succ]
  refine AtE.take (i := 4) (v := ?_) rfl (by kernel_rfl) (by kernel_rfl) (by kernel_rfl) (fun _ _ _ h => h) (by decide) (Or.inl ⟨by rfl, ?_⟩) hHeld ?_
  rotate_left
  · intro wH hSw; have k1 := (hSw.cell (p := ⟨p, 1, none⟩) hpl).trans d1; have k2 := (hSw.cell (p := ⟨q, 0, none⟩) cl).trans c0; have k3 := (hSw.cell (p := ⟨q, 1, none⟩) cl).trans c1; have hlk := HE.out _ (ext_trans HB1.out hSw); go_simp; try (with_reducible rfl)
  simp only [Act.put, List.setIfInBounds_toArray, List.set_cons_zero, List.set_cons_succ]
  refine AtE.take (i := 5) (v := ?_) rfl (by kernel_rfl) (by kernel_rfl) (by kernel_rfl) (fun _ _ _ h => h) (by decide) (Or.inl ⟨by rfl, ?_⟩) hHeld ?_
  rotate_left
  · intro wH hSw; have k1 := (hSw.cell (p := ⟨p, 1, none⟩) hpl).trans d1; have k2 := (hSw.cell (p := ⟨q, 0, none⟩) cl).trans c0; have k3 := (hSw.cell (p := ⟨q, 1, none⟩) cl).trans c1; have hlk := HE.out _ (ext_trans HB1.out hSw); go_simp; try (with_reducible rfl)
  simp only [Act.put, List.setIfInBounds_toArray, List.set_cons_zero, List.set_cons_succ]
  refine AtE.take (i := 6) (v := ?_) rfl (by kernel_rfl) (by kernel_rfl) (by kernel_rfl) (fun _ _ _ h => h) (by decide) (Or.inl ⟨by rfl, ?_⟩) hHeld ?_
  rotate_left
  · intro wH hSw; have k1 := (hSw.cell (p := ⟨p, 1, none⟩) hpl).trans d1; have k2 := (hSw.cell (p := ⟨q, 0, none⟩) cl).trans c0; have k3 := (hSw.cell (p := ⟨q, 1, none⟩) cl).trans c1; have hlk := HE.out _ (ext_trans HB1.out hSw); go_simp; try (with_reducible rfl)
  simp only [Act.put, List.setIfInBounds_toArray, List.set_cons_zero, List.set_cons_succ]
  refine AtE.take (i := 7) (v := ?_) rfl (by kernel_rfl) (by kernel_rfl) (by kernel_rfl) (fun _ _ _ h => h) (by decide) (Or.inl ⟨by rfl, ?_⟩) hHeld ?_
  rotate_left
  · intro wH hSw; have k1 := (hSw.cell (p := ⟨p, 1, none⟩) hpl).trans d1; have k2 := (hSw.cell (p := ⟨q, 0, none⟩) cl).trans c0; have k3 := (hSw.cell (p := ⟨q, 1, none⟩) cl).trans c1; have hlk := HE.out _ (ext_trans HB1.out hSw); go_simp; try (with_reducible rfl)
  simp only [Act.put, List.setIfInBounds_toArray, List.set_cons_zero, List.set_cons_succ]
  refine AtE.take (i := 8) (v := ?_) rfl (by kernel_rfl) (by kernel_rfl) (by kernel_rfl) (fun _ _ _ h => h) (by decide) (Or.inl ⟨by rfl, ?_⟩) hHeld ?_
  rotate_left
  · intro wH hSw; have k1 := (hSw.cell (p := ⟨p, 1, none⟩) hpl).trans d1; have k2 := (hSw.cell (p := ⟨q, 0, none⟩) cl).trans c0; have k3 := (hSw.cell (p := ⟨q, 1, none⟩) cl).trans c1; have hlk := HE.out _ (ext_trans HB1.out hSw); go_simp; try (with_reducible rfl)
  simp only [Act.put, List.setIfInBounds_toArray, List.set_cons_zero, List.set_cons_succ]
  refine AtE.one (i := 9) rfl (by kernel_rfl) (fun K hK => ?_)
  go_simp
  refine hK.out _ _ (fun _ => ext_trans hHeld ((ext_refl _).alloc (Nat.le_refl _) _)) (fun hHeld' => ?_)
  have hHeld := hHeld' (by decide)
  clear hK K hHeld'
  refine AtE.one (i := 10) rfl (by kernel_rfl) (fun K hK => ?_)
  go_simp
  refine hK.out _ _ (fun _ => ((ext_refl W).alloc (Nat.le_refl _) _).drew) (fun hHeld' => ?_)
  have hHeld := hHeld' (by decide)
  clear hK K hHeld'
  refine AtE.one (i := 11) rfl (by kernel_rfl) (fun K hK => ?_)
  go_simp
  refine hK.out _ _ (fun h => absurd rfl h) (fun _ => ?_)
  clear hK K
  refine AtE.done (by kernel_rfl) ?_
  go_wp2
  go_ret
  exact ⟨rfl, HB1.out.trans (hHeld.mono HB1.out.size)⟩

/-- one put behind -/
theorem SdC.begin {w w1 w2 : World} {p m : Nat} {v v' : Value} {cs : List PrC} {r pl : Int} (h : SdC w p v m cs) (hb : Blk w1 p 57 #[v', .map (some m)]) (hrow : w1.ownsRow 0 64 2 v' (cs.length + 1) (rowP cs ++ [.int .i64 r, .int .i64 pl]))
    (hu : Upd (fun k => k = p ∨ v.ownBlock = some k) w w1) (hm : MapAt w2 m enc2 (entP cs ++ [((r, pl), .agg #[.bool false, .int .i64 0, .int .i64 0, .slice none 0 0])])) (hu2 : Upd (· = m) w1 w2) (hq : (prs cs).any (isP r pl) = false) :
    SdC w2 p v' m (cs ++ [⟨newP r pl, .slice none 0 0⟩]) := by
  have hpm := h.pm
  have hvm : v'.ownBlock ≠ some m := fun e => by
    obtain ⟨cur, hb'⟩ := own_blk hrow e
    have h2 := hb'.keep (S := fun k => k = p ∨ v.ownBlock = some k) (Upd.refl _ _) (fun hk => hk.elim (fun e => hpm e.symm) h.own_nm)
    exact (h.map.keep hu (fun hk => hk.elim (fun e => hpm e.symm) h.own_nm)).ne_cells h2 rfl
  refine ⟨hb.keep hu2 hpm, ?_, ?_, ?_, ?_⟩
  · rw [List.length_append, rowP_snoc]
    exact ownsRow_keep hrow hu2 (fun k hk e => hvm (by rw [hk, e]))
  · rw [entP_snoc]; exact hm
  · intro c hc
    rcases List.mem_append.1 hc with hc | hc
    · have ht := h.trees c hc
      have h1 := ht.keep hu (fun k hk e => by
        rcases e with rfl | e
        · exact ht.ne h.blk (by decide) hk
        · obtain ⟨cur, hb'⟩ := own_blk h.row e
          exact ht.ne hb' (by decide) hk)
      refine h1.keep hu2 (fun k hk e => ?_)
      subst e
      obtain ⟨cur, hb'⟩ := own_blk ht hk
      exact h.map.ne_cells hb' rfl
    · obtain rfl : c = _ := by simpa using hc
      exact RowT.nil _
  · rw [List.map_append, List.nodup_append]
    refine ⟨h.apart, by simp, ?_⟩
    intro a ha b hb e
    simp [PrC.key, newP] at hb
    subst hb
    subst e
    have := (keys_not r pl cs).2 (fun c hc => by
      have := List.any_eq_false.1 hq c.p (List.mem_map.2 ⟨c, hc, rfl⟩)
      simpa using this)
    exact this ha
theorem findIn_behind {K : Type} [DecidableEq K] {x : K} : ∀ (l r : List (K × Value)) (i : Nat), x ∉ l.map (·.1) → findIn x (l ++ r) i = findIn x r (i + l.length)
  | [], r, i, _ => rfl
  | p :: l, r, i, h => by
    simp only [List.map_cons, List.mem_cons, not_or] at h
    rw [List.cons_append, findIn, if_neg h.1, findIn_behind l r (i + 1) h.2, List.length_cons]
    congr 1; omega
theorem putIn_new {K : Type} [DecidableEq K] {x : K} {l : List (K × Value)} (h : x ∉ l.map (·.1)) (v : Value) : putIn x v l = l ++ [(x, v)] := by
  unfold putIn; rw [findIn_none.2 h]
theorem putIn_last {K : Type} [DecidableEq K] {x : K} {l : List (K × Value)} (h : x ∉ l.map (·.1)) (v v0 : Value) : putIn x v (l ++ [(x, v0)]) = l ++ [(x, v)] := by
  unfold putIn
  rw [findIn_behind l _ 0 h]
  simp [findIn]
theorem dropIn_last {K : Type} [DecidableEq K] {x : K} {l : List (K × Value)} (h : x ∉ l.map (·.1)) (v0 : Value) : dropIn x (l ++ [(x, v0)]) = l := by
  unfold dropIn
  rw [findIn_behind l _ 0 h]
  simp [findIn, List.eraseIdx_append_of_length_le]
theorem getIn_last {K : Type} [DecidableEq K] {x : K} {l : List (K × Value)} (h : x ∉ l.map (·.1)) (v0 : Value) : getIn x (l ++ [(x, v0)]) = some v0 := by
  unfold getIn
  rw [findIn_behind l _ 0 h]
  simp [findIn]
theorem entP_keys (cs : List PrC) : (entP cs).map (·.1) = cs.map PrC.key := by simp [entP]
theorem SdC.last_not {w : World} {p m : Nat} {v : Value} {cs : List PrC} {c : PrC} (h : SdC w p v m (cs ++ [c])) : c.key ∉ (entP cs).map (·.1) := by
  rw [entP_keys]
  have := h.apart
  rw [List.map_append, List.nodup_append] at this
  exact fun hm => this.2.2 _ hm _ (by simp) rfl

set_option maxRecDepth 100000 in
set_option maxHeartbeats 1600000 in
theorem sbegin_ok (p m : Nat) (v : Value) (cs : List PrC) (r pl : Int) (w : World) (hs : SdC w p v m cs) (hq : (prs cs).any (isP r pl) = false) (hn : cs.length ≤ 1000000) :
    Calls Try.prog 9 #[.pointer (some ⟨p, 0, none⟩), .int .i64 r, .int .i64 pl] w fun e w' => e = .returned (.int .i64 0) ∧
      ∃ v', SdC w' p v' m (cs ++ [⟨newP r pl, .slice none 0 0⟩]) ∧ Upd (SCore p v m) w w' ∧ ∀ k, v'.ownBlock = some k → v.ownBlock = some k ∨ w.heap.size ≤ k := by
  have h1 := hs.c1
  have hp := hs.blk.lt
  have HM := Lib.hid (made_any p m w h1 hp)
  have hfc : cs.find? (fun c => isP r pl c.p) = none := by
    rw [List.find?_eq_none]
    intro c hc
    have := List.any_eq_false.1 hq c.p (List.mem_map.2 ⟨c, hc, rfl⟩)
    simpa using this
  have hkn := (keys_not r pl cs).2 (fun c hc => by have := List.find?_eq_none.1 hfc c hc; simpa using this)
  rw [← entP_keys] at hkn
  have hz : ∀ w, (zeroValue 66).run Try.prog w = .ok (.agg #[.bool false, .int .i64 0, .int .i64 0, .slice none 0 0]) w := fun _ => by kernel_rfl
  have HL := Lib.hid (fun W (hb : Below w.heap.size w W) => run_look Try.underlying52 pair_key (hs.ext hb).map hz (r, pl) true)
  rw [getIn_ent, hfc] at HL
  have HE : Hid (∀ W, Below w.heap.size w W → Sem.run Try.prog (Instr.lookup 52 (.map (some m)) (.agg #[.int .i64 r, .int .i64 pl]) true) W = .ok (.tuple #[.agg #[.bool false, .int .i64 0, .int .i64 0, .slice none 0 0], .bool false]) W) := Lib.hid (fun W hb => HL.out W hb)
  have HS := Lib.hid hs
  have HQ := Lib.hid hq
  have HK := Lib.hid hkn
  clear hs HL hq hkn hfc
  go_enter Try.func9, Try.ntmps9
  go_wp2_with (first
    | (go_at_call 21; refine HM.out.mono ?_; rintro e w1 ⟨rfl, rfl⟩))
  have hb1 := (ext_refl w).alloc (Nat.le_refl _) (.cells #[.int .i64 r, .int .i64 pl] 64)
  have hB := Blk.new w 64 #[.int .i64 r, .int .i64 pl]
  have d1 := (hb1.cell (p := ⟨p, 1, none⟩) hp).trans h1
  have c0 := hB.cell 0
  have c1 := hB.cell 1
  have cl := hB.lt
  have hpl := Nat.lt_of_lt_of_le hp hb1.size
  have HB1 := Lib.hid hb1
  obtain ⟨q, hq⟩ : ∃ q, q = w.heap.size := ⟨_, rfl⟩
  have HQQ := Lib.hid hq
  rw [← hq] at c0 c1 cl hB ⊢
  have HBQ := Lib.hid hB
  clear hB hb1 hq h1 hp
  generalize w.alloc (.cells #[.int .i64 r, .int .i64 pl] 64) = W at *
  refine AtE.start (S := fun w' => Below W.heap.size W w') 11 (by kernel_rfl) (by kernel_rfl) (by exact (ext_refl W).drew) (fun hHeld => ?_)
  refine AtE.take (i := 0) (v := ?_) rfl (by kernel_rfl) (by kernel_rfl) (by kernel_rfl) (fun _ _ _ h => h) (by decide) (Or.inl ⟨by rfl, ?_⟩) hHeld ?_
  rotate_left
  · intro wH hSw; have k1 := (hSw.cell (p := ⟨p, 1, none⟩) hpl).trans d1; have k2 := (hSw.cell (p := ⟨q, 0, none⟩) cl).trans c0; have k3 := (hSw.cell (p := ⟨q, 1, none⟩) cl).trans c1; have hlk := HE.out _ (ext_trans HB1.out hSw); go_simp; try (with_reducible rfl)
  simp only [Act.put, List.setIfInBounds_toArray, List.set_cons_zero, List.set_cons_succ]
  refine AtE.take (i := 1) (v := ?_) rfl (by kernel_rfl) (by kernel_rfl) (by kernel_rfl) (fun _ _ _ h => h) (by decide) (Or.inl ⟨by rfl, ?_⟩) hHeld ?_
  rotate_left
  · intro wH hSw; have k1 := (hSw.cell (p := ⟨p, 1, none⟩) hpl).trans d1; have k2 := (hSw.cell (p := ⟨q, 0, none⟩) cl).trans c0; have k3 := (hSw.cell (p := ⟨q, 1, none⟩) cl).trans c1; have hlk := HE.out _ (ext_trans HB1.out hSw); go_simp; try (with_reducible rfl)
  simp only [Act.put, List.setIfInBounds_toArray, List.set_cons_zero, List.set_cons_succ]
  refine AtE.take (i := 2) (v := ?_) rfl (by kernel_rfl) (by kernel_rfl) (by kernel_rfl) (fun _ _ _ h => h) (by decide) (Or.inl ⟨by rfl, ?_⟩) hHeld ?_
  rotate_left
  · intro wH hSw; have k1 := (hSw.cell (p := ⟨p, 1, none⟩) hpl).trans d1; have k2 := (hSw.cell (p := ⟨q, 0, none⟩) cl).trans c0; have k3 := (hSw.cell (p := ⟨q, 1, none⟩) cl).trans c1; have hlk := HE.out _ (ext_trans HB1.out hSw); go_simp; try (with_reducible rfl)
  simp only [Act.put, List.setIfInBounds_toArray, List.set_cons_zero, List.set_cons_succ]
  refine AtE.take (i := 3) (v := ?_) rfl (by kernel_rfl) (by kernel_rfl) (by kernel_rfl) (fun _ _ _ h => h) (by decide) (Or.inl ⟨by rfl, ?_⟩) hHeld ?_
  rotate_left
  · intro wH hSw; have k1 := (hSw.cell (p := ⟨p, 1, none⟩) hpl).trans d1; have k2 := (hSw.cell (p := ⟨q, 0, none⟩) cl).trans c0; have k3 := (hSw.cell (p := ⟨q, 1, none⟩) cl).trans c1; have hlk := HE.out _ (ext_trans HB1.out hSw); go_simp; try (with_reducible rfl)
  simp only [Act.put, List.setIfInBounds_toArray, List.set_cons_zero, List.set_cons_succ]
  refine AtE.take (i := 4) (v := ?_) rfl (by kernel_rfl) (by kernel_rfl) (by kernel_rfl) (fun _ _ _ h => h) (by decide) (Or.inl ⟨by rfl, ?_⟩) hHeld ?_
  rotate_left
  · intro wH hSw; have k1 := (hSw.cell (p := ⟨p, 1, none⟩) hpl).trans d1; have k2 := (hSw.cell (p := ⟨q, 0, none⟩) cl).trans c0; have k3 := (hSw.cell (p := ⟨q, 1, none⟩) cl).trans c1; have hlk := HE.out _ (ext_trans HB1.out hSw); go_simp; try (with_reducible rfl)
  simp only [Act.put, List.setIfInBounds_toArray, List.set_cons_zero, List.set_cons_succ]
  refine AtE.take (i := 5) (v := ?_) rfl (by kernel_rfl) (by kernel_rfl) (by kernel_rfl) (fun _ _ _ h => h) (by decide) (Or.inl ⟨by rfl, ?_⟩) hHeld ?_
  rotate_left
  · intro wH hSw; have k1 := (hSw.cell (p := ⟨p, 1, none⟩) hpl).trans d1; have k2 := (hSw.cell (p := ⟨q, 0, none⟩) cl).trans c0; have k3 := (hSw.cell (p := ⟨q, 1, none⟩) cl).trans c1; have hlk := HE.out _ (ext_trans HB1.out hSw); go_simp; try (with_reducible rfl)
  simp only [Act.put, List.setIfInBounds_toArray, List.set_cons_zero, List.set_cons_succ]
  refine AtE.take (i := 6) (v := ?_) rfl (by kernel_rfl) (by kernel_rfl) (by kernel_rfl) (fun _ _ _ h => h) (by decide) (Or.inl ⟨by rfl, ?_⟩) hHeld ?_
  rotate_left
  · intro wH hSw; have k1 := (hSw.cell (p := ⟨p, 1, none⟩) hpl).trans d1; have k2 := (hSw.cell (p := ⟨q, 0, none⟩) cl).trans c0; have k3 := (hSw.cell (p := ⟨q, 1, none⟩) cl).trans c1; have hlk := HE.out _ (ext_trans HB1.out hSw); go_simp; try (with_reducible rfl)
  simp only [Act.put, List.setIfInBounds_toArray, List.set_cons_zero, List.set_cons_succ]
  refine AtE.take (i := 7) (v := ?_) rfl (by kernel_rfl) (by kernel_rfl) (by kernel_rfl) (fun _ _ _ h => h) (by decide) (Or.inl ⟨by rfl, ?_⟩) hHeld ?_
  rotate_left
  · intro wH hSw; have k1 := (hSw.cell (p := ⟨p, 1, none⟩) hpl).trans d1; have k2 := (hSw.cell (p := ⟨q, 0, none⟩) cl).trans c0; have k3 := (hSw.cell (p := ⟨q, 1, none⟩) cl).trans c1; have hlk := HE.out _ (ext_trans HB1.out hSw); go_simp; try (with_reducible rfl)
  simp only [Act.put, List.setIfInBounds_toArray, List.set_cons_zero, List.set_cons_succ]
  refine AtE.take (i := 8) (v := ?_) rfl (by kernel_rfl) (by kernel_rfl) (by kernel_rfl) (fun _ _ _ h => h) (by decide) (Or.inl ⟨by rfl, ?_⟩) hHeld ?_
  rotate_left
  · intro wH hSw; have k1 := (hSw.cell (p := ⟨p, 1, none⟩) hpl).trans d1; have k2 := (hSw.cell (p := ⟨q, 0, none⟩) cl).trans c0; have k3 := (hSw.cell (p := ⟨q, 1, none⟩) cl).trans c1; have hlk := HE.out _ (ext_trans HB1.out hSw); go_simp; try (with_reducible rfl)
  simp only [Act.put, List.setIfInBounds_toArray, List.set_cons_zero, List.set_cons_succ]
  refine AtE.one (i := 9) rfl (by kernel_rfl) (fun K hK => ?_)
  go_simp
  refine hK.out _ _ (fun _ => ext_trans hHeld ((ext_refl _).alloc (Nat.le_refl _) _)) (fun hHeld' => ?_)
  have hHeld := hHeld' (by decide)
  clear hK K hHeld'
  refine AtE.one (i := 10) rfl (by kernel_rfl) (fun K hK => ?_)
  go_simp
  refine hK.out _ _ (fun _ => ((ext_refl W).alloc (Nat.le_refl _) _).drew) (fun hHeld' => ?_)
  have hHeld := hHeld' (by decide)
  clear hK K hHeld'
  refine AtE.one (i := 11) rfl (by kernel_rfl) (fun K hK => ?_)
  go_simp
  refine hK.out _ _ (fun h => absurd rfl h) (fun _ => ?_)
  clear hK K
  refine AtE.done (by kernel_rfl) ?_
  go_wp2
  have d1' := (hHeld.cell (p := ⟨p, 1, none⟩) hpl).trans d1
  have hB' := HBQ.out.ext hHeld
  have c0' := hB'.cell 0
  have c1' := hB'.cell 1
  have cl' := hB'.lt
  have hpl' := Nat.lt_of_lt_of_le hpl hHeld.size
  have HW2 := Lib.hid (ext_trans HB1.out hHeld)
  have HB2 := Lib.hid hB'
  clear hHeld hB' d1 c0 c1 cl hpl
  generalize ((W.alloc (.cells #[.bool false, .int .i64 0, .int .i64 0, .slice none 0 0] 66)).drew) = X at *
  refine AtE.start (S := fun w' => Below X.heap.size X w') 4 (by kernel_rfl) (by kernel_rfl) (by exact (ext_refl X).drew) (fun hHeld => ?_)
  refine AtE.take (i := 0) (v := ?_) rfl (by kernel_rfl) (by kernel_rfl) (by kernel_rfl) (fun _ _ _ h => h) (by decide) (Or.inl ⟨by rfl, ?_⟩) hHeld ?_
  rotate_left
  · intro wH hSw; have k2 := (hSw.cell (p := ⟨q, 0, none⟩) cl').trans c0'; have k3 := (hSw.cell (p := ⟨q, 1, none⟩) cl').trans c1'; go_simp; try (with_reducible rfl)
  simp only [Act.put, List.setIfInBounds_toArray, List.set_cons_zero, List.set_cons_succ]
  refine AtE.take (i := 1) (v := ?_) rfl (by kernel_rfl) (by kernel_rfl) (by kernel_rfl) (fun _ _ _ h => h) (by decide) (Or.inl ⟨by rfl, ?_⟩) hHeld ?_
  rotate_left
  · intro wH hSw; have k2 := (hSw.cell (p := ⟨q, 0, none⟩) cl').trans c0'; have k3 := (hSw.cell (p := ⟨q, 1, none⟩) cl').trans c1'; go_simp; try (with_reducible rfl)
  simp only [Act.put, List.setIfInBounds_toArray, List.set_cons_zero, List.set_cons_succ]
  refine AtE.take (i := 2) (v := ?_) rfl (by kernel_rfl) (by kernel_rfl) (by kernel_rfl) (fun _ _ _ h => h) (by decide) (Or.inl ⟨by rfl, ?_⟩) hHeld ?_
  rotate_left
  · intro wH hSw; have k2 := (hSw.cell (p := ⟨q, 0, none⟩) cl').trans c0'; have k3 := (hSw.cell (p := ⟨q, 1, none⟩) cl').trans c1'; go_simp; try (with_reducible rfl)
  simp only [Act.put, List.setIfInBounds_toArray, List.set_cons_zero, List.set_cons_succ]
  refine AtE.take (i := 3) (v := ?_) rfl (by kernel_rfl) (by kernel_rfl) (by kernel_rfl) (fun _ _ _ h => h) (by decide) (Or.inl ⟨by rfl, ?_⟩) hHeld ?_
  rotate_left
  · intro wH hSw; have k2 := (hSw.cell (p := ⟨q, 0, none⟩) cl').trans c0'; have k3 := (hSw.cell (p := ⟨q, 1, none⟩) cl').trans c1'; go_simp; try (with_reducible rfl)
  simp only [Act.put, List.setIfInBounds_toArray, List.set_cons_zero, List.set_cons_succ]
  refine AtE.one (i := 4) rfl (by kernel_rfl) (fun K hK => ?_)
  go_simp
  refine (spush_any p m v cs r pl _ (HS.out.ext (ext_trans HW2.out hHeld)) hn).mono ?_
  rintro e Y ⟨rfl, v', hbY, hrY, huY, hvY⟩
  refine hK.out _ _ (fun h => absurd rfl h) (fun _ => ?_)
  clear hK K
  refine AtE.done (by kernel_rfl) ?_
  have hqp : ¬ (q = p ∨ v.ownBlock = some q) := by
    rintro (h | h)
    · have := HS.out.blk.lt
      have := HQQ.out
      omega
    · have := (HS.out.row.lt q h).2
      have := HQQ.out
      omega
  have hBY := (HB2.out.ext hHeld).keep huY hqp
  have c0 := hBY.cell 0
  have c1 := hBY.cell 1
  have cl := hBY.lt
  have d1 := hbY.cell 1
  have dl := hbY.lt
  have hmY := ((HS.out.ext (ext_trans HW2.out hHeld)).map).keep huY (by
    rintro (h | h)
    · exact HS.out.pm h.symm
    · exact HS.out.own_nm h)
  have HY := Lib.hid (And.intro hbY (And.intro hrY (And.intro ((Upd.of_ext (ext_trans HW2.out hHeld)).trans huY) (And.intro hvY hmY))))
  have HXZ := Lib.hid (ext_trans HW2.out hHeld)
  clear hbY hrY huY hvY hBY hqp d1' c0' c1' cl' hpl' hHeld hmY
  go_wp2
  refine AtE.start (S := fun w' => Below Y.heap.size Y w') 6 (by kernel_rfl) (by kernel_rfl) (by exact (ext_refl Y).drew) (fun hHeld => ?_)
  refine AtE.take (i := 0) (v := ?_) rfl (by kernel_rfl) (by kernel_rfl) (by kernel_rfl) (fun _ _ _ h => h) (by decide) (Or.inl ⟨by rfl, ?_⟩) hHeld ?_
  rotate_left
  · intro wH hSw; have k1 := (hSw.cell (p := ⟨p, 1, none⟩) dl).trans d1; have k2 := (hSw.cell (p := ⟨q, 0, none⟩) cl).trans c0; have k3 := (hSw.cell (p := ⟨q, 1, none⟩) cl).trans c1; go_simp; try (with_reducible rfl)
  simp only [Act.put, List.setIfInBounds_toArray, List.set_cons_zero, List.set_cons_succ]
  refine AtE.take (i := 1) (v := ?_) rfl (by kernel_rfl) (by kernel_rfl) (by kernel_rfl) (fun _ _ _ h => h) (by decide) (Or.inl ⟨by rfl, ?_⟩) hHeld ?_
  rotate_left
  · intro wH hSw; have k1 := (hSw.cell (p := ⟨p, 1, none⟩) dl).trans d1; have k2 := (hSw.cell (p := ⟨q, 0, none⟩) cl).trans c0; have k3 := (hSw.cell (p := ⟨q, 1, none⟩) cl).trans c1; go_simp; try (with_reducible rfl)
  simp only [Act.put, List.setIfInBounds_toArray, List.set_cons_zero, List.set_cons_succ]
  refine AtE.take (i := 2) (v := ?_) rfl (by kernel_rfl) (by kernel_rfl) (by kernel_rfl) (fun _ _ _ h => h) (by decide) (Or.inl ⟨by rfl, ?_⟩) hHeld ?_
  rotate_left
  · intro wH hSw; have k1 := (hSw.cell (p := ⟨p, 1, none⟩) dl).trans d1; have k2 := (hSw.cell (p := ⟨q, 0, none⟩) cl).trans c0; have k3 := (hSw.cell (p := ⟨q, 1, none⟩) cl).trans c1; go_simp; try (with_reducible rfl)
  simp only [Act.put, List.setIfInBounds_toArray, List.set_cons_zero, List.set_cons_succ]
  refine AtE.take (i := 3) (v := ?_) rfl (by kernel_rfl) (by kernel_rfl) (by kernel_rfl) (fun _ _ _ h => h) (by decide) (Or.inl ⟨by rfl, ?_⟩) hHeld ?_
  rotate_left
  · intro wH hSw; have k1 := (hSw.cell (p := ⟨p, 1, none⟩) dl).trans d1; have k2 := (hSw.cell (p := ⟨q, 0, none⟩) cl).trans c0; have k3 := (hSw.cell (p := ⟨q, 1, none⟩) cl).trans c1; go_simp; try (with_reducible rfl)
  simp only [Act.put, List.setIfInBounds_toArray, List.set_cons_zero, List.set_cons_succ]
  refine AtE.take (i := 4) (v := ?_) rfl (by kernel_rfl) (by kernel_rfl) (by kernel_rfl) (fun _ _ _ h => h) (by decide) (Or.inl ⟨by rfl, ?_⟩) hHeld ?_
  rotate_left
  · intro wH hSw; have k1 := (hSw.cell (p := ⟨p, 1, none⟩) dl).trans d1; have k2 := (hSw.cell (p := ⟨q, 0, none⟩) cl).trans c0; have k3 := (hSw.cell (p := ⟨q, 1, none⟩) cl).trans c1; go_simp; try (with_reducible rfl)
  simp only [Act.put, List.setIfInBounds_toArray, List.set_cons_zero, List.set_cons_succ]
  refine AtE.take (i := 5) (v := ?_) rfl (by kernel_rfl) (by kernel_rfl) (by kernel_rfl) (fun _ _ _ h => h) (by decide) (Or.inl ⟨by rfl, ?_⟩) hHeld ?_
  rotate_left
  · intro wH hSw; have k1 := (hSw.cell (p := ⟨p, 1, none⟩) dl).trans d1; have k2 := (hSw.cell (p := ⟨q, 0, none⟩) cl).trans c0; have k3 := (hSw.cell (p := ⟨q, 1, none⟩) cl).trans c1; go_simp; try (with_reducible rfl)
  simp only [Act.put, List.setIfInBounds_toArray, List.set_cons_zero, List.set_cons_succ]
  refine AtE.one (i := 6) rfl (by kernel_rfl) (fun K hK => ?_)
  obtain ⟨Z, hrun, hmZ, huZ, -⟩ := run_write (P := Try.prog) Try.underlying52 pair_key (HY.out.2.2.2.2.ext hHeld) (r, pl) (.agg #[.bool false, .int .i64 0, .int .i64 0, .slice none 0 0])
  unfold enc2 at hrun
  go_simp
  refine hK.out _ _ (fun h => absurd rfl h) (fun _ => ?_)
  clear hK K
  refine AtE.done (by kernel_rfl) ?_
  rw [putIn_new HK.out] at hmZ
  go_wp2
  go_ret
  obtain ⟨a1, a2, a3, a4, a5⟩ := HY.out
  refine ⟨rfl, v', HS.out.begin (a1.ext hHeld) (ownsRow_keep a2 (Upd.of_ext (S := fun _ => False) hHeld) (fun _ _ h => h)) (a3.trans (Upd.of_ext hHeld)) hmZ huZ HQ.out, ?_, fun k hk => ?_⟩
  · exact ((a3.trans (Upd.of_ext hHeld)).mono (fun k _ hk => hk.elim .inl (fun h => .inr (.inl h)))).trans (huZ.mono (fun k _ hk => .inr (.inr hk)))
  · refine (a4 k hk).imp id (fun h => Nat.le_trans HXZ.out.size h)
end Go.Proofs.Ytchmlhceidociaa
