/- What was done: a step put behind. -/
import Derived.Test.YtjmidomcgaijjaaHist
import Derived.Deep.RegionHeld3
import Derived.Deep.RegionWith
import Derived.Deep.RegionLaw
namespace Go.Proofs.Ytjmidomcgaijjaa
set_option linter.unusedVariables false
open Go.RowKit

theorem own_blk {w : World} {base sz n k : Nat} {t : TypeId} {v : Value} {xs : List Value} (h : w.ownsRow base t sz v n xs) (hk : v.ownBlock = some k) : ∃ cs, Blk w k t cs := by
  rcases h.2 with ⟨rfl, _⟩ | ⟨g, cap, cur, rfl, hb, hg, _⟩
  · simp [Value.ownBlock] at hk
  · have : g = k := by simpa [Value.ownBlock] using hk
    subst this
    exact ⟨_, hg⟩
theorem Tab.of_push {w : World} {t : TypeId} {sz n : Nat} {v : Value} {rows rows' : List (List Int)} {xs : List Value} {r : List Int}
    (h : w.ownsRow 0 t sz v (n + 1) ((rows.flatMap fun r => r.map (Value.int .i64)) ++ xs)) (hx : r.length = sz ∧ r.map (Value.int .i64) = xs) (hr : ∀ r ∈ rows, r.length = sz) (e : rows' = rows ++ [r] ∧ rows.length = n) : Tab w t sz v rows' := by
  obtain ⟨h1, rfl⟩ := hx
  obtain ⟨rfl, rfl⟩ := e
  refine ⟨by simpa using h, fun x hx => ?_⟩
  simp at hx
  rcases hx with hx | rfl
  · exact hr x hx
  · exact h1

theorem HisC.push_l {w w1 : World} {q p : Nat} {vl vr vt vl' : Value} {H : Hist} (h : HisC w q p vl vr vt H) (s : St)
    (hrow : w1.ownsRow 0 40 3 vl' (H.l.length + 1) (((H.l.map St.row).flatMap fun r => r.map (Value.int .i64)) ++ [.int .i64 s.rule, .int .i64 s.place, .int .i64 s.since]))
    (hu : Upd (fun k => vl.ownBlock = some k) w w1) (hv : ∀ k, vl'.ownBlock = some k → vl.ownBlock = some k ∨ w.heap.size ≤ k) :
    HisC (w1.setCell ⟨q, 1, none⟩ vl') q p vl' vr vt { H with l := H.l ++ [s] } ∧ Upd (HFoot q vl vr vt) w (w1.setCell ⟨q, 1, none⟩ vl') ∧ ∀ k, HFoot q vl' vr vt k → HFoot q vl vr vt k ∨ w.heap.size ≤ k := by
  have hql : ∀ k, vl.ownBlock = some k → q ≠ k := fun k hk e => by
    obtain ⟨cs, hb⟩ := own_blk h.l.1 hk
    exact Blk.ne_ h.blk hb (by decide) e
  have hb1 : Blk w1 q 31 _ := h.blk.keep hu (fun e => hql _ e rfl)
  have hq' : ∀ k, vl'.ownBlock = some k → k ≠ q := fun k hk e => by
    obtain ⟨cs, hb⟩ := own_blk hrow hk
    exact Blk.ne_ hb hb1 (by decide) e
  have hs := setCell_upd w1 q 1 vl'
  have hu' : Upd (fun k => k = q ∨ vl.ownBlock = some k) w (w1.setCell ⟨q, 1, none⟩ vl') := (hu.mono (fun k _ hk => .inr hk)).trans' hs (fun k _ hk => .inl hk)
  refine ⟨⟨by simpa using hb1.set_ 1 vl', ?_, ?_, ?_⟩, hu'.mono (fun k _ hk => ?_), ?_⟩
  · exact Tab.of_push (r := s.row) (ownsRow_keep hrow hs hq') ⟨rfl, rfl⟩ h.l.2 ⟨by simp, by simp⟩
  · refine h.reads.keep hu' (fun k hk e => ?_)
    obtain ⟨cs, hb⟩ := own_blk h.reads.1 hk
    rcases e with e | e
    · exact Blk.ne_ h.blk hb (by decide) e.symm
    · obtain ⟨cs', hb'⟩ := own_blk h.l.1 e
      exact Blk.ne_ hb hb' (by decide) rfl
  · refine h.touches.keep hu' (fun k hk e => ?_)
    obtain ⟨cs, hb⟩ := own_blk h.touches.1 hk
    rcases e with e | e
    · exact Blk.ne_ h.blk hb (by decide) e.symm
    · obtain ⟨cs', hb'⟩ := own_blk h.l.1 e
      exact Blk.ne_ hb hb' (by decide) rfl
  · rcases hk with hk | hk
    · exact .inl hk
    · exact .inr (.inl hk)
  · rintro k (hk | hk | hk | hk)
    · exact .inl (.inl hk)
    · exact (hv k hk).imp (fun hk => .inr (.inl hk)) id
    · exact .inl (.inr (.inr (.inl hk)))
    · exact .inl (.inr (.inr (.inr hk)))

theorem HisC.push_reads {w w1 : World} {q p : Nat} {vl vr vt vr' : Value} {H : Hist} (h : HisC w q p vl vr vt H) (s : Rd)
    (hrow : w1.ownsRow 0 37 2 vr' (H.reads.length + 1) (((H.reads.map Rd.row).flatMap fun r => r.map (Value.int .i64)) ++ [.int .i64 s.step, .int .i64 s.at_]))
    (hu : Upd (fun k => vr.ownBlock = some k) w w1) (hv : ∀ k, vr'.ownBlock = some k → vr.ownBlock = some k ∨ w.heap.size ≤ k) :
    HisC (w1.setCell ⟨q, 2, none⟩ vr') q p vl vr' vt { H with reads := H.reads ++ [s] } ∧ Upd (HFoot q vl vr vt) w (w1.setCell ⟨q, 2, none⟩ vr') ∧ ∀ k, HFoot q vl vr' vt k → HFoot q vl vr vt k ∨ w.heap.size ≤ k := by
  have hql : ∀ k, vr.ownBlock = some k → q ≠ k := fun k hk e => by
    obtain ⟨cs, hb⟩ := own_blk h.reads.1 hk
    exact Blk.ne_ h.blk hb (by decide) e
  have hb1 : Blk w1 q 31 _ := h.blk.keep hu (fun e => hql _ e rfl)
  have hq' : ∀ k, vr'.ownBlock = some k → k ≠ q := fun k hk e => by
    obtain ⟨cs, hb⟩ := own_blk hrow hk
    exact Blk.ne_ hb hb1 (by decide) e
  have hs := setCell_upd w1 q 2 vr'
  have hu' : Upd (fun k => k = q ∨ vr.ownBlock = some k) w (w1.setCell ⟨q, 2, none⟩ vr') := (hu.mono (fun k _ hk => .inr hk)).trans' hs (fun k _ hk => .inl hk)
  refine ⟨⟨by simpa using hb1.set_ 2 vr', ?_, ?_, ?_⟩, hu'.mono (fun k _ hk => ?_), ?_⟩
  · refine h.l.keep hu' (fun k hk e => ?_)
    obtain ⟨cs, hb⟩ := own_blk h.l.1 hk
    rcases e with e | e
    · exact Blk.ne_ h.blk hb (by decide) e.symm
    · obtain ⟨cs', hb'⟩ := own_blk h.reads.1 e
      exact Blk.ne_ hb hb' (by decide) rfl
  · exact Tab.of_push (r := s.row) (ownsRow_keep hrow hs hq') ⟨rfl, rfl⟩ h.reads.2 ⟨by simp, by simp⟩
  · refine h.touches.keep hu' (fun k hk e => ?_)
    obtain ⟨cs, hb⟩ := own_blk h.touches.1 hk
    rcases e with e | e
    · exact Blk.ne_ h.blk hb (by decide) e.symm
    · obtain ⟨cs', hb'⟩ := own_blk h.reads.1 e
      exact Blk.ne_ hb hb' (by decide) rfl
  · rcases hk with hk | hk
    · exact .inl hk
    · exact .inr (.inr (.inl hk))
  · rintro k (hk | hk | hk | hk)
    · exact .inl (.inl hk)
    · exact .inl (.inr (.inl hk))
    · exact (hv k hk).imp (fun hk => .inr (.inr (.inl hk))) id
    · exact .inl (.inr (.inr (.inr hk)))

theorem HisC.push_touches {w w1 : World} {q p : Nat} {vl vr vt vt' : Value} {H : Hist} (h : HisC w q p vl vr vt H) (s : Tc)
    (hrow : w1.ownsRow 0 87 3 vt' (H.touches.length + 1) (((H.touches.map Tc.row).flatMap fun r => r.map (Value.int .i64)) ++ [.int .i64 s.step, .int .i64 s.rule, .int .i64 s.place]))
    (hu : Upd (fun k => vt.ownBlock = some k) w w1) (hv : ∀ k, vt'.ownBlock = some k → vt.ownBlock = some k ∨ w.heap.size ≤ k) :
    HisC (w1.setCell ⟨q, 3, none⟩ vt') q p vl vr vt' { H with touches := H.touches ++ [s] } ∧ Upd (HFoot q vl vr vt) w (w1.setCell ⟨q, 3, none⟩ vt') ∧ ∀ k, HFoot q vl vr vt' k → HFoot q vl vr vt k ∨ w.heap.size ≤ k := by
  have hql : ∀ k, vt.ownBlock = some k → q ≠ k := fun k hk e => by
    obtain ⟨cs, hb⟩ := own_blk h.touches.1 hk
    exact Blk.ne_ h.blk hb (by decide) e
  have hb1 : Blk w1 q 31 _ := h.blk.keep hu (fun e => hql _ e rfl)
  have hq' : ∀ k, vt'.ownBlock = some k → k ≠ q := fun k hk e => by
    obtain ⟨cs, hb⟩ := own_blk hrow hk
    exact Blk.ne_ hb hb1 (by decide) e
  have hs := setCell_upd w1 q 3 vt'
  have hu' : Upd (fun k => k = q ∨ vt.ownBlock = some k) w (w1.setCell ⟨q, 3, none⟩ vt') := (hu.mono (fun k _ hk => .inr hk)).trans' hs (fun k _ hk => .inl hk)
  refine ⟨⟨by simpa using hb1.set_ 3 vt', ?_, ?_, ?_⟩, hu'.mono (fun k _ hk => ?_), ?_⟩
  · refine h.l.keep hu' (fun k hk e => ?_)
    obtain ⟨cs, hb⟩ := own_blk h.l.1 hk
    rcases e with e | e
    · exact Blk.ne_ h.blk hb (by decide) e.symm
    · obtain ⟨cs', hb'⟩ := own_blk h.touches.1 e
      exact Blk.ne_ hb hb' (by decide) rfl
  · refine h.reads.keep hu' (fun k hk e => ?_)
    obtain ⟨cs, hb⟩ := own_blk h.reads.1 hk
    rcases e with e | e
    · exact Blk.ne_ h.blk hb (by decide) e.symm
    · obtain ⟨cs', hb'⟩ := own_blk h.touches.1 e
      exact Blk.ne_ hb hb' (by decide) rfl
  · exact Tab.of_push (r := s.row) (ownsRow_keep hrow hs hq') ⟨rfl, rfl⟩ h.touches.2 ⟨by simp, by simp⟩
  · rcases hk with hk | hk
    · exact .inl hk
    · exact .inr (.inr (.inr hk))
  · rintro k (hk | hk | hk | hk)
    · exact .inl (.inl hk)
    · exact .inl (.inr (.inl hk))
    · exact .inl (.inr (.inr (.inl hk)))
    · exact (hv k hk).imp (fun hk => .inr (.inr (.inr hk))) id

/-- of which kinds a stack's blocks are -/
theorem HS.kind {w : World} {p : Nat} {S : Nat → Prop} {l : List Fr} (h : HS w p S l) {k : Nat} (hk : S k) :
    (∃ t cs, (t = 78 ∨ t = 83) ∧ Blk w k t cs) ∨ ∃ es c, w.heap[k]? = some (.map es c) := by
  obtain ⟨v, cs, hc, hl, rfl⟩ := h
  rcases hk with rfl | hk | hk
  · exact .inl ⟨_, _, .inl rfl, hc.blk⟩
  · obtain ⟨cs', hb⟩ := own_blk hc.row hk
    exact .inl ⟨_, _, .inr rfl, hb⟩
  · obtain ⟨c, hcs, hk⟩ := List.mem_flatMap.1 hk
    have hss := hc.sets c hcs
    simp at hk
    rcases hk with rfl | rfl
    · obtain ⟨es, c, e, _⟩ := hss.1; exact .inr ⟨es, c, e⟩
    · obtain ⟨es, c, e, _⟩ := hss.2; exact .inr ⟨es, c, e⟩
/-- so a block of another kind is none of them -/
theorem HS.not {w : World} {p : Nat} {S : Nat → Prop} {l : List Fr} (h : HS w p S l) {b : Nat} {t : TypeId} {cs : Array Value} (hb : Blk w b t cs) (h1 : t ≠ 78) (h2 : t ≠ 83) : ¬ S b := by
  intro hk
  rcases h.kind hk with ⟨t', cs', ht, hb'⟩ | ⟨es, c, e⟩
  · have : t = t' := by
      unfold Blk at hb hb'
      rw [hb] at hb'
      injection hb' with e
      injection e
    subst this
    exact ht.elim h1 h2
  · exact map_ne_cells hb e rfl
theorem HisC.kind {w : World} {q p : Nat} {vl vr vt : Value} {H : Hist} (h : HisC w q p vl vr vt H) {k : Nat} (hk : HFoot q vl vr vt k) :
    ∃ t cs, (t = 31 ∨ t = 40 ∨ t = 37 ∨ t = 87) ∧ Blk w k t cs := by
  rcases hk with rfl | hk | hk | hk
  · exact ⟨_, _, .inl rfl, h.blk⟩
  · obtain ⟨cs, hb⟩ := own_blk h.l.1 hk; exact ⟨_, _, .inr (.inl rfl), hb⟩
  · obtain ⟨cs, hb⟩ := own_blk h.reads.1 hk; exact ⟨_, _, .inr (.inr (.inl rfl)), hb⟩
  · obtain ⟨cs, hb⟩ := own_blk h.touches.1 hk; exact ⟨_, _, .inr (.inr (.inr rfl)), hb⟩
theorem HisC.apart {w : World} {q p p' : Nat} {vl vr vt : Value} {H : Hist} {S : Nat → Prop} {l : List Fr} (h : HisC w q p vl vr vt H) (hs : HS w p' S l) {k : Nat} (hk : HFoot q vl vr vt k) : ¬ S k := by
  obtain ⟨t, cs, ht, hb⟩ := h.kind hk
  refine hs.not hb ?_ ?_
  · rcases ht with rfl | rfl | rfl | rfl <;> decide
  · rcases ht with rfl | rfl | rfl | rfl <;> decide

/-- q leads to what was done, and on to the stack; all of it is F -/
def HH (w : World) (q p : Nat) (F : Nat → Prop) (H : Hist) (l : List Fr) : Prop :=
  ∃ S vl vr vt, HisC w q p vl vr vt H ∧ HS w p S l ∧ F = fun k => S k ∨ HFoot q vl vr vt k
theorem HH.slt {w : World} {q p : Nat} {F : Nat → Prop} {H : Hist} {l : List Fr} (h : HH w q p F H l) : ∀ k, F k → k < w.heap.size := by
  obtain ⟨S, vl, vr, vt, h1, h2, rfl⟩ := h
  rintro k (hk | hk)
  · exact h2.slt k hk
  · exact h1.foot_lt hk
theorem HH.ext {w w' : World} {q p : Nat} {F : Nat → Prop} {H : Hist} {l : List Fr} (h : HH w q p F H l) (hb : Below w.heap.size w w') : HH w' q p F H l := by
  obtain ⟨S, vl, vr, vt, h1, h2, rfl⟩ := h
  exact ⟨S, vl, vr, vt, h1.ext hb, h2.ext hb, rfl⟩
theorem HH.not {w : World} {q p : Nat} {F : Nat → Prop} {H : Hist} {l : List Fr} (h : HH w q p F H l) {b : Nat} {t : TypeId} {cs : Array Value} (hb : Blk w b t cs)
    (h0 : (t != 78 && t != 83 && t != 31 && t != 40 && t != 37 && t != 87) = true) : ¬ F b := by
  obtain ⟨S, vl, vr, vt, h1, h2, rfl⟩ := h
  simp only [Bool.and_eq_true, bne_iff_ne] at h0
  rintro (hk | hk)
  · exact h2.not hb h0.1.1.1.1.1 h0.1.1.1.1.2 hk
  · obtain ⟨t', cs', ht, hb'⟩ := h1.kind hk
    have : t = t' := by
      unfold Blk at hb hb'
      rw [hb] at hb'
      injection hb' with e
      injection e
    subst this
    rcases ht with rfl | rfl | rfl | rfl <;> simp at h0
end Go.Proofs.Ytjmidomcgaijjaa
