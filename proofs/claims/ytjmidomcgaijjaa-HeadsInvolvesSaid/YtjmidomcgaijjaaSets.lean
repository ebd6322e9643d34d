/- A set of numbers kept in a map[int]int whose elements are all 1: what a store and the making of one do. -/
import Derived.Test.YtjmidomcgaijjaaBase
import Derived.Test.YtjmidomcgaijjaaProg
import Derived.Maps.OwnOps
namespace Go.Proofs.Ytjmidomcgaijjaa
set_option linter.unusedVariables false
open Go.RowKit

/-- the numbers rise -/
def Rising (l : List Int) : Prop := l.Pairwise (· < ·)

/-- put one number more into a rising list -/
def ins (x : Int) : List Int → List Int
  | [] => [x]
  | y :: l => if x < y then x :: y :: l else if x = y then y :: l else y :: ins x l

theorem mem_ins {x y : Int} {l : List Int} : y ∈ ins x l ↔ y = x ∨ y ∈ l := by
  induction l with
  | nil => simp [ins]
  | cons z l ih =>
    unfold ins
    split
    · simp
    · split
      · rename_i h; subst h; simp
      · simp [ih]; constructor
        · rintro (h | h | h) <;> simp [h]
        · rintro (h | h | h) <;> simp [h]
theorem rising_ins {x : Int} {l : List Int} (h : Rising l) : Rising (ins x l) := by
  induction l with
  | nil => simp [ins, Rising]
  | cons z l ih =>
    have h1 : ∀ y ∈ l, z < y := (List.pairwise_cons.1 h).1
    have h2 : Rising l := (List.pairwise_cons.1 h).2
    unfold ins
    split
    · rename_i hx
      refine List.pairwise_cons.2 ⟨?_, h⟩
      intro y hy
      rcases List.mem_cons.1 hy with rfl | hy
      · exact hx
      · have := h1 y hy; omega
    · split
      · exact h
      · refine List.pairwise_cons.2 ⟨?_, ih h2⟩
        intro y hy
        rcases mem_ins.1 hy with rfl | hy
        · omega
        · exact h1 y hy
theorem ins_mem {x : Int} {l : List Int} (h : Rising l) (hx : x ∈ l) : ins x l = l := by
  induction l with
  | nil => cases hx
  | cons z l ih =>
    have h1 : ∀ y ∈ l, z < y := (List.pairwise_cons.1 h).1
    unfold ins
    rcases List.mem_cons.1 hx with rfl | hx
    · rw [if_neg (by omega), if_pos rfl]
    · have := h1 x hx
      rw [if_neg (by omega), if_neg (by omega), ih (List.pairwise_cons.1 h).2 hx]
theorem ins_perm {x : Int} {l : List Int} (hx : x ∉ l) : (ins x l).Perm (x :: l) := by
  induction l with
  | nil => simp [ins]
  | cons z l ih =>
    unfold ins
    split
    · exact List.Perm.refl _
    · split
      · rename_i h; subst h; simp at hx
      · exact ((ih (fun h => hx (by simp [h]))).cons z).trans (List.Perm.swap x z l)

/-- the entries es, stamped below clock, are the set xs -/
structure SetIs (es : Array MapEntry) (clock : Nat) (xs : List Int) : Prop where
  rising : Rising xs
  keys : (es.toList.map (·.key)).Perm (xs.map (Value.int .i64))
  vals : ∀ e ∈ es.toList, e.val = .int .i64 1
  stamps : (es.toList.map (·.born)).Pairwise (· < ·)
  below : ∀ e ∈ es.toList, e.born < clock

/-- block m of w is the set xs -/
def SetAt (w : World) (m : Nat) (xs : List Int) : Prop := ∃ es clock, w.heap[m]? = some (.map es clock) ∧ SetIs es clock xs

theorem SetAt.lt {w : World} {m : Nat} {xs : List Int} (h : SetAt w m xs) : m < w.heap.size := by
  obtain ⟨_, _, h, _⟩ := h; exact lt_of_some h
theorem SetAt.rising {w : World} {m : Nat} {xs : List Int} (h : SetAt w m xs) : Rising xs := by
  obtain ⟨_, _, _, h⟩ := h; exact h.rising
theorem SetAt.of_block {w w' : World} {m : Nat} {xs : List Int} (h : SetAt w m xs) (hb : w'.heap[m]? = w.heap[m]?) : SetAt w' m xs := by
  obtain ⟨es, c, h, hs⟩ := h; exact ⟨es, c, hb.trans h, hs⟩
theorem SetAt.keep {S : Nat → Prop} {w w' : World} {m : Nat} {xs : List Int} (h : SetAt w m xs) (hu : Upd S w w') (hm : ¬ S m) : SetAt w' m xs := h.of_block (hu.block m h.lt hm)
theorem SetAt.ext {w w' : World} {m : Nat} {xs : List Int} (h : SetAt w m xs) (hb : Below w.heap.size w w') : SetAt w' m xs := h.of_block (hb.block m h.lt)
theorem SetAt.new (w : World) : SetAt (w.alloc (.map #[] 0)) w.heap.size [] :=
  ⟨#[], 0, heap_alloc_new w _, ⟨List.Pairwise.nil, by simp, by simp, by simp, by simp⟩⟩

theorem findNow_some (x : Int) : ∀ (l : List MapEntry) (i : Nat), (∀ e ∈ l, ∃ y, e.key = .int .i64 y) → (Value.int .i64 x) ∈ l.map (·.key) →
    ∃ j e, l[j]? = some e ∧ e.key = .int .i64 x ∧ Instr.findNow (.int .i64) (.int .i64 x) l i = some (some (i + j, e.val))
  | [], _, _, h => by simp at h
  | e :: l, i, hk, h => by
    obtain ⟨y, hy⟩ := hk e (by simp)
    by_cases hxy : x = y
    · subst hxy
      exact ⟨0, e, rfl, hy, by simp [Instr.findNow, Instr.sameNow, hy]⟩
    · have h' : (Value.int .i64 x) ∈ l.map (·.key) := by
        rcases List.mem_cons.1 h with h | h
        · exact absurd (by have h : Value.int .i64 x = e.key := h; rw [hy] at h; injection h) hxy
        · exact h
      obtain ⟨j, e', h1, h2, h3⟩ := findNow_some x l (i + 1) (fun e he => hk e (by simp [he])) h'
      refine ⟨j + 1, e', by simpa using h1, h2, ?_⟩
      have : (x == y) = false := by simp [hxy]
      simp [Instr.findNow, Instr.sameNow, hy, this, h3]
      omega
theorem findNow_none (x : Int) : ∀ (l : List MapEntry) (i : Nat), (∀ e ∈ l, ∃ y, e.key = .int .i64 y) → ¬ (Value.int .i64 x) ∈ l.map (·.key) →
    Instr.findNow (.int .i64) (.int .i64 x) l i = some none
  | [], _, _, _ => rfl
  | e :: l, i, hk, h => by
    obtain ⟨y, hy⟩ := hk e (by simp)
    have hxy : (x == y) = false := by
      simp only [beq_eq_false_iff_ne]; rintro rfl; exact h (by simp [hy])
    simp [Instr.findNow, Instr.sameNow, hy, hxy]
    exact findNow_none x l (i + 1) (fun e he => hk e (by simp [he])) (fun hh => h (by simp [hh]))
theorem SetIs.key_int {es : Array MapEntry} {c : Nat} {xs : List Int} (h : SetIs es c xs) : ∀ e ∈ es.toList, ∃ y, e.key = .int .i64 y := by
  intro e he
  have := h.keys.mem_iff.1 (List.mem_map_of_mem (f := (·.key)) he)
  obtain ⟨y, _, hy⟩ := List.mem_map.1 this
  exact ⟨y, hy.symm⟩
theorem SetIs.mem_key {es : Array MapEntry} {c : Nat} {xs : List Int} (h : SetIs es c xs) {x : Int} : (Value.int .i64 x) ∈ es.toList.map (·.key) ↔ x ∈ xs := by
  rw [h.keys.mem_iff]; simp

/-- 'm[x] = 1' -/
theorem run_put {P : Program} {T k e : TypeId} (ht : P.underlying T = some (.map k e)) (hk : P.underlying k = some (.int .i64)) {w : World} {m : Nat} {xs : List Int} (h : SetAt w m xs) (x : Int) :
    ∃ w', (Instr.mapUpdate T (.map (some m)) (.int .i64 x) (.int .i64 1)).run P w = .ok () w' ∧ SetAt w' m (ins x xs) ∧ Upd (· = m) w w' ∧ w'.heap.size = w.heap.size := by
  obtain ⟨es, clock, hm, hs⟩ := h
  have hc : ∀ b, (Instr.checkKey b 10000 k (.int .i64 x)).run P w = .ok () w := by
    intro b
    rw [show (10000 : Nat) = 9999 + 1 from rfl, Instr.checkKey]
    simp only [Sem.run_bind, run_underlying hk, Result.andThen_ok]
    rfl
  have hupd : ∀ (es' : Array MapEntry) (c' : Nat), Upd (· = m) w { w with heap := w.heap.setIfInBounds m (.map es' c') } := by
    intro es' c'
    exact ⟨rfl, rfl, rfl, by simp, fun i hi hn => by simp [Ne.symm hn]⟩
  have hat : ∀ (es' : Array MapEntry) (c' : Nat), (({ w with heap := w.heap.setIfInBounds m (.map es' c') } : World).heap)[m]? = some (.map es' c') := by
    intro es' c'
    have := lt_of_some hm
    simp [this]
  by_cases hx : x ∈ xs
  · obtain ⟨j, e0, h1, h2, h3⟩ := findNow_some x es.toList 0 hs.key_int (hs.mem_key.2 hx)
    rw [Nat.zero_add] at h3
    have hj : es[j]? = some e0 := by simpa using h1
    refine ⟨{ w with heap := w.heap.setIfInBounds m (.map (es.modify j fun e => { e with key := .int .i64 x, val := .int .i64 1 }) clock) }, ?_, ⟨_, _, hat _ _, ?_⟩, hupd _ _, by simp⟩
    · simp [Instr.mapUpdate, run_underlying ht, getObj, setObj, Sem.run, hm, hc, Instr.findKey, run_underlying hk, h3, Instr.keyThatStays, hj, h2, Instr.sameBits]
    · have e1 : (es.modify j fun e => { e with key := Value.int .i64 x, val := Value.int .i64 1 }) = es := by
        apply Array.ext_getElem?
        intro i
        rw [Array.getElem?_modify]
        split
        · rename_i hij; subst hij
          rw [hj]
          have hv := hs.vals e0 (List.mem_of_getElem? h1)
          obtain ⟨k0, v0, b0⟩ := e0
          simp only at h2 hv
          subst h2; subst hv
          rfl
        · rfl
      rw [e1, ins_mem hs.rising hx]
      exact hs
  · have h3 := findNow_none x es.toList 0 hs.key_int (fun h => hx (hs.mem_key.1 h))
    refine ⟨{ w with heap := w.heap.setIfInBounds m (.map (es.push { key := .int .i64 x, val := .int .i64 1, born := clock }) (clock + 1)) }, ?_, ⟨_, _, hat _ _, ?_⟩, hupd _ _, by simp⟩
    · simp [Instr.mapUpdate, run_underlying ht, getObj, setObj, Sem.run, hm, hc, Instr.findKey, run_underlying hk, h3]
    · refine ⟨rising_ins hs.rising, ?_, ?_, ?_, ?_⟩
      · simp only [Array.toList_push, List.map_append, List.map_cons, List.map_nil]
        refine List.Perm.trans ?_ ((ins_perm hx).map (Value.int .i64)).symm
        simp only [List.map_cons]
        exact (List.perm_append_singleton _ _).trans (hs.keys.cons _)
      · simp only [Array.toList_push, List.mem_append, List.mem_singleton]
        rintro e (he | rfl)
        · exact hs.vals e he
        · rfl
      · simp only [Array.toList_push, List.map_append, List.map_cons, List.map_nil]
        rw [List.pairwise_append]
        refine ⟨hs.stamps, by simp, ?_⟩
        intro a ha b hb
        simp only [List.mem_singleton] at hb
        subst hb
        obtain ⟨e, he, rfl⟩ := List.mem_map.1 ha
        exact hs.below e he
      · simp only [Array.toList_push, List.mem_append, List.mem_singleton]
        rintro e (he | rfl)
        · exact Nat.lt_succ_of_lt (hs.below e he)
        · exact Nat.lt_succ_self _
end Go.Proofs.Ytjmidomcgaijjaa
