/- Touching a place: all activations that stand there. -/
import Derived.Test.YtjmidomcgaijjaaHeads
namespace Go.Proofs.Ytjmidomcgaijjaa
set_option linter.unusedVariables false
open Go.RowKit

/-- g done to the first k -/
def mapTo {α : Type} (g : α → α) (k : Nat) (l : List α) : List α := (l.take k).map g ++ l.drop k
theorem mapTo_zero {α : Type} (g : α → α) (l : List α) : mapTo g 0 l = l := by simp [mapTo]
theorem mapTo_all {α : Type} (g : α → α) (l : List α) : mapTo g l.length l = l.map g := by simp [mapTo]
theorem mapTo_length {α : Type} (g : α → α) (k : Nat) (l : List α) : (mapTo g k l).length = l.length := by
  simp [mapTo]; omega
theorem mapTo_at {α : Type} (g : α → α) (k : Nat) (l : List α) (h : k < l.length) : (mapTo g k l)[k]'(by rw [mapTo_length]; exact h) = l[k] := by
  unfold mapTo
  rw [List.getElem_append_right (by simp; omega)]
  simp [Nat.min_eq_left (Nat.le_of_lt h)]
theorem mapTo_succ {α : Type} (g : α → α) (k : Nat) (l : List α) (h : k < l.length) : mapTo g (k + 1) l = (mapTo g k l).set k (g l[k]) := by
  unfold mapTo
  rw [List.set_append_right _ _ (by simp; omega), List.take_succ_eq_append_getElem h, List.map_append, List.append_assoc]
  congr 1
  have : (k - (List.map g (List.take k l)).length) = 0 := by simp; omega
  rw [this, List.drop_eq_getElem_cons h]
  rfl

def touchF (pl : Int) (l : List Int) (f : Fr) : Fr := if f.place == pl then { f with touched := insAll l f.touched } else f
def FrC.up (t : Fr → Fr) (c : FrC) : FrC := { c with f := t c.f }

theorem map_ne_cells {w : World} {a b : Nat} {t : TypeId} {cs : Array Value} {z : Nat × Nat} {es : Array MapEntry} {k : Nat} (ha : w.heap[a]? = some (.cells cs t z)) (hb : w.heap[b]? = some (.map es k)) : a ≠ b := by
  rintro rfl; rw [ha] at hb; cases hb

theorem mapsOf_set {cs : List FrC} {k : Nat} (hk : k < cs.length) (x : FrC) (h1 : x.mt = cs[k].mt) (h2 : x.mv = cs[k].mv) : mapsOf (cs.set k x) = mapsOf cs := by
  unfold mapsOf
  induction cs generalizing k with
  | nil => simp at hk
  | cons c cs ih =>
    cases k with
    | zero => simp at h1 h2 ⊢; exact ⟨h1, h2⟩
    | succ k => simp at h1 h2 ⊢; exact ih (by simpa using hk) h1 h2
theorem rowOf_set {cs : List FrC} {k : Nat} (hk : k < cs.length) (x : FrC) (h : x.cells = cs[k].cells) : rowOf (cs.set k x) = rowOf cs := by
  unfold rowOf
  induction cs generalizing k with
  | nil => simp at hk
  | cons c cs ih =>
    cases k with
    | zero => simp at h ⊢; exact h
    | succ k => simp at h ⊢; exact ih (by simpa using hk) h

/-- The sets of activation k, in a list whose sets all lie apart, are no others'. -/
theorem maps_apart {cs : List FrC} (hn : (mapsOf cs).Nodup) {k : Nat} (hk : k < cs.length) {c : FrC} {j : Nat} (hj : cs[j]? = some c) (hne : j ≠ k) :
    c.mt ≠ cs[k].mt ∧ c.mv ≠ cs[k].mt ∧ c.mt ≠ cs[k].mv ∧ c.mv ≠ cs[k].mv := by
  induction cs generalizing k j with
  | nil => simp at hk
  | cons d cs ih =>
    have hn' : ([d.mt, d.mv] ++ mapsOf cs).Nodup := hn
    rw [List.nodup_append] at hn'
    obtain ⟨h1, h2, h3⟩ := hn'
    cases k with
    | zero =>
      cases j with
      | zero => exact absurd rfl hne
      | succ j =>
        have hm := mem_maps (List.mem_of_getElem? (show cs[j]? = some c by simpa using hj))
        exact ⟨(h3 d.mt (by simp) _ hm.1).symm, (h3 d.mt (by simp) _ hm.2).symm, (h3 d.mv (by simp) _ hm.1).symm, (h3 d.mv (by simp) _ hm.2).symm⟩
    | succ k =>
      cases j with
      | zero =>
        obtain rfl : d = c := by simpa using hj
        have hm := mem_maps (List.getElem_mem (show k < cs.length by simpa using hk))
        exact ⟨h3 d.mt (by simp) _ hm.1, h3 d.mv (by simp) _ hm.1, h3 d.mt (by simp) _ hm.2, h3 d.mv (by simp) _ hm.2⟩
      | succ j => exact ih h2 (by simpa using hk) (by simpa using hj) (by omega)
/-- .. and its two sets are not one. -/
theorem maps_apart_own {cs : List FrC} (hn : (mapsOf cs).Nodup) {k : Nat} (hk : k < cs.length) : cs[k].mt ≠ cs[k].mv := by
  induction cs generalizing k with
  | nil => simp at hk
  | cons d cs ih =>
    have hn' : ([d.mt, d.mv] ++ mapsOf cs).Nodup := hn
    rw [List.nodup_append] at hn'
    cases k with
    | zero => simpa using hn'.1
    | succ k => exact ih hn'.2.1 (by simpa using hk)

/-- One set of one activation has been turned, and nothing else. -/
theorem StkC.set_touched {w w1 : World} {p : Nat} {v : Value} {cs : List FrC} (h : StkC w p v cs) {k : Nat} (hk : k < cs.length) (hu : Upd (· = cs[k].mt) w w1) {new : List Int} (hs : SetAt w1 cs[k].mt new) :
    StkC w1 p v (cs.set k (cs[k].up fun f => { f with touched := new })) := by
  obtain ⟨es, cl, hm, _⟩ := (h.sets _ (List.getElem_mem hk)).1
  refine ⟨h.blk.keep hu (map_ne_cells h.blk hm), ?_, ?_, by rw [mapsOf_set hk] <;> first | exact h.nodup | rfl⟩
  · rw [List.length_set, rowOf_set hk (cs[k].up fun f => { f with touched := new }) rfl]
    refine ownsRow_keep h.row hu fun g hg => ?_
    rcases h.row.2 with ⟨rfl, _⟩ | ⟨g', cap, cur, rfl, _, hg', _⟩
    · cases hg
    · cases hg; exact map_ne_cells hg' hm
  · intro c hc
    obtain ⟨j, hj, rfl⟩ := List.getElem_of_mem hc
    rw [List.length_set] at hj
    by_cases hjk : j = k
    · subst hjk
      simp only [List.getElem_set_self]
      exact ⟨hs, (h.sets _ (List.getElem_mem hk)).2.keep hu (maps_apart_own h.nodup hk).symm⟩
    · rw [List.getElem_set_ne (Ne.symm hjk)]
      have ha := maps_apart h.nodup hk (List.getElem?_eq_getElem hj) hjk
      exact ⟨(h.sets _ (List.getElem_mem hj)).1.keep hu ha.1, (h.sets _ (List.getElem_mem hj)).2.keep hu ha.2.1⟩
theorem StkC.set_involved {w w1 : World} {p : Nat} {v : Value} {cs : List FrC} (h : StkC w p v cs) {k : Nat} (hk : k < cs.length) (hu : Upd (· = cs[k].mv) w w1) {new : List Int} (hs : SetAt w1 cs[k].mv new) :
    StkC w1 p v (cs.set k (cs[k].up fun f => { f with involved := new })) := by
  obtain ⟨es, cl, hm, _⟩ := (h.sets _ (List.getElem_mem hk)).2
  refine ⟨h.blk.keep hu (map_ne_cells h.blk hm), ?_, ?_, by rw [mapsOf_set hk] <;> first | exact h.nodup | rfl⟩
  · rw [List.length_set, rowOf_set hk (cs[k].up fun f => { f with involved := new }) rfl]
    refine ownsRow_keep h.row hu fun g hg => ?_
    rcases h.row.2 with ⟨rfl, _⟩ | ⟨g', cap, cur, rfl, _, hg', _⟩
    · cases hg
    · cases hg; exact map_ne_cells hg' hm
  · intro c hc
    obtain ⟨j, hj, rfl⟩ := List.getElem_of_mem hc
    rw [List.length_set] at hj
    by_cases hjk : j = k
    · subst hjk
      simp only [List.getElem_set_self]
      exact ⟨(h.sets _ (List.getElem_mem hk)).1.keep hu (maps_apart_own h.nodup hk), hs⟩
    · rw [List.getElem_set_ne (Ne.symm hjk)]
      have ha := maps_apart h.nodup hk (List.getElem?_eq_getElem hj) hjk
      exact ⟨(h.sets _ (List.getElem_mem hj)).1.keep hu ha.2.2.1, (h.sets _ (List.getElem_mem hj)).2.keep hu ha.2.2.2⟩

theorem Ints.of_cells {w w' : World} {v : Value} {l : List Int} (h : Ints w v l) (hk : ∀ (p : Addr) u, w.cell? p = some u → w'.cell? p = some u) : Ints w' v l := Reads.of_cells h hk
theorem mapsOf_up (cs : List FrC) (k : Nat) (t : Fr → Fr) : mapsOf (mapTo (FrC.up t) k cs) = mapsOf cs := by
  unfold mapsOf mapTo
  rw [List.flatMap_append, List.flatMap_map]
  rw [show (List.take k cs).flatMap (fun a => [(FrC.up t a).mt, (FrC.up t a).mv]) = (List.take k cs).flatMap (fun c => [c.mt, c.mv]) from rfl, ← List.flatMap_append, List.take_append_drop]
theorem frs_up (cs : List FrC) (t : Fr → Fr) : frs (cs.map (FrC.up t)) = (frs cs).map t := by simp [frs, FrC.up]
theorem set_same {α : Type} {l : List α} {k : Nat} (h : k < l.length) {x : α} (hx : x = l[k]) : l.set k x = l := by subst hx; simp

set_option maxRecDepth 100000 in
set_option maxHeartbeats 800000 in
theorem touch_any (cs : List FrC) (v lv : Value) (l : List Int) (pl : Int) (p : Nat) (w : World) (hs : StkC w p v cs) (hl : Ints w lv l) :
    Calls Try.prog 47 #[.pointer (some ⟨p, 0, none⟩), .int .i64 pl, lv] w fun e w' => e = .returned (.tuple #[]) ∧ StkC w' p v (cs.map (FrC.up (touchF pl l))) ∧ Upd (· ∈ mapsOf cs) w w' ∧ w'.heap.size = w.heap.size := by
  have h1 := hs.c1
  obtain ⟨A, c, rfl, hc, hm, _, _⟩ := hs.reads.frame
  unfold maxLen at hm
  go_enter Try.func47, Try.ntmps47
  go_wp2
  have HS := Lib.hid hs
  have HL := Lib.hid hl
  clear hs hl
  go_loopw [13] (fun i wr => ∃ k : Nat, k ≤ cs.length ∧ i = .int .i64 k ∧ StkC wr p (.slice A cs.length c) (mapTo (FrC.up (touchF pl l)) k cs) ∧ Ints wr lv l ∧ Upd (· ∈ mapsOf cs) w wr ∧ wr.heap.size = w.heap.size) (fun i _ => cs.length - (intOf i).toNat)
  case atStart => exact ⟨0, Nat.zero_le _, rfl, by rw [mapTo_zero]; exact HS.out, HL.out, Upd.refl _ _, rfl⟩
  case round =>
    obtain ⟨k, hk, rfl, hsk, hlk, hu, hz⟩ := hrel
    have HZ := Lib.hid hz
    clear hz
    by_cases hlt : k < cs.length
    · have c1 := hsk.c1
      have hlen := mapTo_length (FrC.up (touchF pl l)) k cs
      have HLEN := Lib.hid hlen
      obtain ⟨A', c', e', _, _, _, hcells⟩ := hsk.reads.frame
      obtain ⟨b, o, rfl, hbl, hcell⟩ := hcells (by omega)
      rw [hlen] at e'
      cases e'
      have hfr := hcell k (by omega)
      have hget := mapTo_at (FrC.up (touchF pl l)) k cs hlt
      rw [hget] at hfr
      obtain ⟨g0, g1, g2, g3, g4⟩ := hfr
      have hk' : k < (mapTo (FrC.up (touchF pl l)) k cs).length := by omega
      have hset := hsk.sets _ (List.getElem_mem hk')
      rw [hget] at hset
      have hpb : p < wr.heap.size := hsk.lt
      have hsucc := mapTo_succ (FrC.up (touchF pl l)) k cs hlt
      have P := put_any cs[k].mt cs[k].f.touched l lv wr hset.1 hlk
      have HP := Lib.hid P
      have HSK := Lib.hid hsk
      have HLK := Lib.hid hlk
      have HT := Lib.hid hset.1
      have HG := Lib.hid hget
      have HSU := Lib.hid hsucc
      have hmem : cs[k].mt ∈ mapsOf cs := (mem_maps (List.getElem_mem hlt)).1
      have HM := Lib.hid hmem
      clear hcells hcell hset hsk hlk P hlen hget hsucc hmem
      by_cases hpl : cs[k].f.place = pl
      · have hb : (cs[k].f.place == pl) = true := by simp [hpl]
        have HB := Lib.hid hb
        have hupd : (FrC.up (touchF pl l) cs[k]) = cs[k].up fun f => { f with touched := insAll l f.touched } := by simp [FrC.up, touchF, hb]
        have HU := Lib.hid hupd
        clear hpl hupd
        go_wp2_with (first | (go_at_call 51; refine HP.out.mono ?_; rintro e w1 ⟨rfl, hs1, hu1, hz1⟩))
        have HZ1 := Lib.hid hz1
        clear hz1
        go_roundw
        case rel =>
          refine ⟨k + 1, by omega, by go_num, ?_, HLK.out.of_cells (fun q u hq => HT.out.cell_keep hu1 q u hq), hu.trans (hu1.mono fun _ _ e => by rw [e]; exact HM.out), HZ1.out.trans HZ.out⟩
          rw [HSU.out, HU.out]
          have := HSK.out.set_touched hk' (w1 := w1) (new := insAll l cs[k].f.touched) (by rw [HG.out]; exact hu1) (by rw [HG.out]; exact hs1)
          rw [HG.out] at this
          exact this
        case measure => simp [intOf]; omega
      · have hb : (cs[k].f.place == pl) = false := by simp [hpl]
        have hupd : (FrC.up (touchF pl l) cs[k]) = cs[k] := by simp [FrC.up, touchF, hb]
        have HU := Lib.hid hupd
        clear hpl hupd
        go_wp2
        go_roundw
        case rel =>
          refine ⟨k + 1, by omega, by go_num, ?_, HLK.out, hu, HZ.out⟩
          rw [HSU.out, HU.out, set_same hk' HG.out.symm]
          exact HSK.out
        case measure => simp [intOf]; omega
    · have hkl : k = cs.length := by omega
      have HK := Lib.hid hkl
      clear hkl
      go_wp2
      go_end0
      have := HK.out
      subst this
      rw [mapTo_all] at hsk
      exact ⟨rfl, hsk, hu, HZ.out⟩
end Go.Proofs.Ytjmidomcgaijjaa
